/-
  One cell of a grid, diced.
-/
import Derived.Test.YtcbnegmmjflmcaaGreatLPjr
import Derived.Test.YtcbnegmmjflmcaaGreatJ6
import Derived.Test.YtcbnegmmjflmcaaGreatJ8
import Derived.Test.YtcbnegmmjflmcaaGreatJ4
set_option linter.unusedSimpArgs false
set_option linter.unusedVariables false
namespace Go.Proofs.YtcbnegmmjflmcaaGreat.St
open Go.RowKit
structure DPar where
  cw : Int
  ch : Int
  z : Int
  ne : Int
  dd : Bool
  l : Int
  f : Int
  x0 : Int
  y0 : Int
  z0 : Int
  x1 : Int
  y1 : Int
  z1 : Int
  x2 : Int
  y2 : Int
  z2 : Int
  x3 : Int
  y3 : Int
  z3 : Int
  nn : Int
  sx : Int
  sy : Int
abbrev DPar.camC (D : DPar) : List Value := [I D.cw, I D.ch, I D.z, I D.ne, .bool D.dd, I D.l, I D.f]
abbrev DPar.patC (D : DPar) : List Value := [I D.x0, I D.y0, I D.z0, I D.x1, I D.y1, I D.z1, I D.x2, I D.y2, I D.z2, I D.x3, I D.y3, I D.z3]
abbrev TVec := G.TVec
abbrev eVec (v : TVec) : List Value := G.eVec v
/-- a point of the patch -/
def DPar.ev (D : DPar) (i j : Int) : TVec := (mn D.x0 D.x1 D.x2 D.x3 i j D.nn, mn D.y0 D.y1 D.y2 D.y3 i j D.nn, mn D.z0 D.z1 D.z2 D.z3 i j D.nn)
/-- what is seen of it -/
def DPar.pv (D : DPar) (i j : Int) : TVec := (prj D.dd D.z D.l D.f ((D.cw * 16).tdiv 2) (D.ev i j).1 (D.ev i j).2.2 D.sx, prj D.dd D.z D.l D.f ((D.ch * 16).tdiv 2) (D.ev i j).2.1 (D.ev i j).2.2 D.sy, (D.ev i j).2.2)
structure DOk (D : DPar) : Prop where
  cam : G.vCm D.cw D.ch D.z D.ne D.l D.f
  nn : 1 ≤ D.nn ∧ D.nn ≤ 8
  sx : -16 ≤ D.sx ∧ D.sx ≤ 16
  sy : -16 ≤ D.sy ∧ D.sy ≤ 16
def goodV (D : DPar) (w : TVec) : Prop := ∃ i j : Int, (0 ≤ i ∧ i ≤ D.nn) ∧ (0 ≤ j ∧ j ≤ D.nn) ∧ D.ne ≤ (D.ev i j).2.2 ∧ w = D.pv i j
abbrev TMic := TVec × TVec × TVec × Int × Int × Int
abbrev eMic (m : TMic) : List Value := [I m.1.1, I m.1.2.1, I m.1.2.2, I m.2.1.1, I m.2.1.2.1, I m.2.1.2.2, I m.2.2.1.1, I m.2.2.1.2.1, I m.2.2.1.2.2, I m.2.2.2.1, I m.2.2.2.2.1, I m.2.2.2.2.2]
def goodM (D : DPar) (m : TMic) : Prop := goodV D m.1 ∧ goodV D m.2.1 ∧ goodV D m.2.2.1
def micR (D : DPar) (N : Nat) (v : Value) (L' : List Own) : Prop := ∃ (p : Option Addr) (c : Nat) (ms : List TMic), v = .slice p ms.length c ∧ L' = [.row (.slice p ms.length c) 55 12 (ms.map eMic).flatten] ∧ ms.length ≤ N ∧ ∀ m ∈ ms, goodM D m
theorem Mem.lower {W0 w : World} {X : List Nat} {B B' : Heap} {L : List Own} (hm : Mem W0 X B' L w) (hB : Heap.le B B') : Mem W0 X B L w :=
  ⟨hm.os, hm.tape, hm.output, hm.size, hm.block, fun b o h => hm.base b o (hB b o h), hm.own, hm.fresh, fun x hx b hb => (by
    cases h : B b with
    | none => rfl
    | some o =>
      have := hB b o h
      rw [hm.apart x hx b hb] at this
      cases this), hm.nodup⟩
end Go.Proofs.YtcbnegmmjflmcaaGreat.St
namespace Go.Proofs.YtcbnegmmjflmcaaGreat.St.Rnd
open Go.RowKit
theorem At.pre {B : Heap} {q : Addr} {cs ds : List Value} (h : At B q (cs ++ ds)) : At B q cs := by
  obtain ⟨h1, arr, T, fz, h2, h3⟩ := h
  exact ⟨h1, arr, T, fz, h2, fun j v hv => h3 j v (by rw [List.getElem?_append_left (List.getElem?_eq_some_iff.1 hv).1]; exact hv)⟩
theorem perm1 {a x : Own} {L M : List Own} (h : (a :: L).Perm M) : (a :: x :: L).Perm (x :: M) := (List.Perm.swap _ _ _).trans (h.cons _)
theorem perm2 {a b x : Own} {L M : List Own} (h : (a :: b :: L).Perm M) : (a :: b :: x :: L).Perm (x :: M) := (List.perm_middle (l₁ := [a, b])).trans (h.cons _)
theorem perm3 {a b c x : Own} {L M : List Own} (h : (a :: b :: c :: L).Perm M) : (a :: b :: c :: x :: L).Perm (x :: M) := (List.perm_middle (l₁ := [a, b, c])).trans (h.cons _)
theorem k_blockR {Q : QD} {ds : List Deferred} {a : Act} {w : World} {id : Nat} (h : Cont (Q ds) .ret a w) : Cont (inBlockD id Q ds) .ret a w := ⟨h.out⟩
set_option maxHeartbeats 16000000 in
theorem diceCell_ok (D : DPar) (hD : DOk D) (u v : Nat) (hu : (u : Int) < D.nn) (hv : (v : Int) < D.nn) :
    FunG Tryz.prog 42 [.agg D.camC.toArray, .agg D.patC.toArray, .int .i64 u, .int .i64 v, I D.nn, I D.sx, I D.sy] (fun _ => True) (micR D 2) := by
  have hn := hD.nn
  have hsx := hD.sx
  have hsy := hD.sy
  refine enterFunG Tryz.func42 rfl Tryz.ntmps42 rfl (fun W0 w a _ hm h => ?_)
  repeat' (first | refine c_seq ?_ | refine c_region ?_ | refine c_nil ?_ | refine k_then ?_ | refine c_skip ?_ | refine c_condF h rfl ?_ | (refine st_op (d := 7) rfl rfl h ?_; refine does_box hm rfl rfl ?_; clear h a hm; intro b_7 w hm a h) | (refine st_op (d := 8) rfl rfl h ?_; refine does_box hm rfl rfl ?_; clear h a hm; intro b_8 w hm a h) | (refine st_op (d := 9) rfl rfl h ?_; refine does_box hm rfl rfl ?_; clear h a hm; intro b_9 w hm a h) | (refine st_op (d := 10) rfl rfl h ?_; refine does_box hm rfl rfl ?_; clear h a hm; intro b_10 w hm a h) | (refine st_op (d := 11) rfl rfl h ?_; refine does_box hm rfl rfl ?_; clear h a hm; intro b_11 w hm a h) | (refine st_op (d := 12) rfl rfl h ?_; refine does_box hm rfl rfl ?_; clear h a hm; intro b_12 w hm a h) | (refine st_op (d := 13) rfl rfl h ?_; refine does_box hm rfl rfl ?_; clear h a hm; intro b_13 w hm a h) | (refine st_op (d := 14) rfl rfl h ?_; refine does_alloc hm ?_; clear h a hm; intro b_14 w hm a h) | (refine st_op (d := 15) rfl rfl h ?_; refine does_alloc hm ?_; clear h a hm; intro b_15 w hm a h) | ((first | refine st_op rfl rfl h ?_ | refine st_opn rfl h ?_); clear h a; (first | (show Does _ (.call _) _ _ _ _; ((refine does_funM hm en30 rfl ((within_ok _ _ _).yes (by omega)) ?_; clear hm; intro w hm))) | (show Does _ (.buildSlice _ _ _) _ _ _ _; (((refine does_buildSlice (n := 0) hm rfl rfl rfl ?_; clear hm; intro bz w hm; replace hm := hm.toRow 0 (n := 0) (cap := 0) 3 rfl rfl (Nat.zero_le _); simp only [List.set_cons_zero, rep, List.replicate_zero, List.flatten_nil] at hm)))) | (show Does _ (.store _ _ _) _ _ _ _; ((refine does_storeO 0 hm rfl rfl rfl rfl rfl rfl rfl ?_; clear hm; intro w hm; (simp only [Value.cells, splice, nqq, Nat.reduceAdd, Nat.reduceMul, Int.reduceAdd, Int.reduceToNat] at hm)))) | (show Does _ (.move _) _ _ _ _; refine does_move rfl ?_) | (show Does _ (.pick _ _ _) _ _ _ _; (refine does_pickF rfl rfl ?_)) | (show Does _ (.load _ _) _ _ _ _; (first | refine does_loadO 3 hm rfl rfl rfl ?_ | refine does_loadO 4 hm rfl rfl rfl ?_ | refine does_loadO 5 hm rfl rfl rfl ?_)) | (show Does _ (.unOp _ _ _) _ _ _ _; (refine does_not rfl ?_)) | (show Does _ (.binOp _ _ _ _ _) _ _ _ _; (refine does_sub rfl rfl (by omega) ?_))); intro a h))
  refine st_op rfl rfl h ?_; clear h a; refine does_funG hm en41 rfl (cells_ok 2) trivial ?_; clear hm; rintro v1 L1 w ⟨bn, rfl, rfl⟩ hm a h
  simp only [List.cons_append, List.nil_append] at hm
  replace hm := hm.pull2
  repeat' (first | refine c_nil ?_ | refine k_then ?_ | refine c_block ?_)
  replace h := h.keep (E' := [(7, .pointer (some ⟨b_7, 0, none⟩)), (8, .pointer (some ⟨b_8, 0, none⟩)), (9, .pointer (some ⟨b_9, 0, none⟩)), (10, .pointer (some ⟨b_10, 0, none⟩)), (11, .pointer (some ⟨b_11, 0, none⟩)), (12, .pointer (some ⟨b_12, 0, none⟩)), (13, .pointer (some ⟨b_13, 0, none⟩)), (14, .pointer (some ⟨b_14, 0, none⟩)), (15, .pointer (some ⟨b_15, 0, none⟩)), (42, .func (.func 59) #[] #[.pointer (some ⟨bn, 0, none⟩)])]) ⟨rfl, rfl, rfl, rfl, rfl, rfl, rfl, rfl, rfl, rfl, trivial⟩
  refine c_rangeFuncS h hm rfl en59 (cells1_iterS 2 bn (by omega)) (fun _ => rfl) rfl (fun k => [(17, I ((k / 2 : Nat) : Int)), (16, I ((k % 2 : Nat) : Int)), (7, .pointer (some ⟨b_7, 0, none⟩)), (8, .pointer (some ⟨b_8, 0, none⟩)), (9, .pointer (some ⟨b_9, 0, none⟩)), (10, .pointer (some ⟨b_10, 0, none⟩)), (11, .pointer (some ⟨b_11, 0, none⟩)), (12, .pointer (some ⟨b_12, 0, none⟩)), (13, .pointer (some ⟨b_13, 0, none⟩)), (14, .pointer (some ⟨b_14, 0, none⟩)), (15, .pointer (some ⟨b_15, 0, none⟩))]) (fun k Lk => ∃ (pp : Option Addr) (c : Nat) (vs : List TVec), (vs.length = k ∧ (k ≤ c ∧ c ≤ maxLen) ∧ ∀ x ∈ vs, goodV D x) ∧ Lk = (.row (.slice pp vs.length c) 37 3 (vs.map eVec).flatten :: .blk bn (.cells [I ((2 : Nat) : Int)].toArray 3) :: .blk b_15 (.cells [.slice pp vs.length c].toArray 95) :: [.blk b_14 (.cells [.slice none 0 0].toArray 48), .blk b_13 (.cells [I D.sy].toArray 3), .blk b_12 (.cells [I D.sx].toArray 3), .blk b_11 (.cells [I D.nn].toArray 3), .blk b_10 (.cells [.int .i64 v].toArray 3), .blk b_9 (.cells [.int .i64 u].toArray 3), .blk b_8 (.cells D.patC.toArray 40), .blk b_7 (.cells D.camC.toArray 24)])) (fun Lk => Lk = [.blk b_14 (.cells [.slice none 0 0].toArray 48)]) ⟨_, _, [], ⟨rfl, ⟨Nat.zero_le _, by simp only [maxLen]; omega⟩, by simp⟩, rfl⟩ ?_ ?_ ?_ ?_ ?_
  · rintro k Lk Y w ⟨pp, c, vs, _, rfl⟩ hm
    exact mem_idx (i := 1) hm rfl
  · intro lp k w a hk h
    repeat' (first | refine c_seq ?_ | refine c_region ?_ | refine c_nil ?_ | refine k_then ?_ | ((refine st_op rfl rfl h ?_); clear h a; ((show Does _ (.assign _) _ _ _ _; refine does_assign rfl ?_)); intro a h))
    exact ⟨rfl, rfl, rfl, h.keep ⟨rfl, rfl, rfl, rfl, rfl, rfl, rfl, rfl, rfl, rfl, rfl, trivial⟩⟩
  · clear h hm a w
    rintro lp Dd o k Lk w a hk ⟨pp, c, vs, ⟨rfl, ⟨hc1, hc2⟩, hvs⟩, rfl⟩ hm h
    simp only [List.cons_append, List.nil_append] at hm
    obtain ⟨i, hi⟩ : ∃ i, i = vs.length % 2 := ⟨_, rfl⟩
    obtain ⟨j, hj⟩ : ∃ j, j = vs.length / 2 := ⟨_, rfl⟩
    rw [← hi, ← hj] at h
    have hi1 : i ≤ 1 := by omega
    have hj1 : j ≤ 1 := by omega
    have hui : 0 ≤ (u : Int) + i ∧ (u : Int) + i ≤ D.nn := by omega
    have hvj : 0 ≤ (v : Int) + j ∧ (v : Int) + j ≤ D.nn := by omega
    have ex := @mn_in D.x0 D.x1 D.x2 D.x3 (u + i) (v + j) D.nn hn.1 hui hvj
    have ey := @mn_in D.y0 D.y1 D.y2 D.y3 (u + i) (v + j) D.nn hn.1 hui hvj
    have ez := @mn_in D.z0 D.z1 D.z2 D.z3 (u + i) (v + j) D.nn hn.1 hui hvj
    have hfl := flat_len (enc := eVec) (sz := 3) (fun _ => rfl) vs
    clear hi hj
    repeat' ((fail_if_success (refine c_isReg 7 ?_)); first | refine c_seq ?_ | refine c_region ?_ | refine c_nil ?_ | refine k_then ?_ | refine k_thenL ?_ | refine k_thenR ?_ | refine k_thenE ?_ | refine k_inN ?_ | refine k_inR ?_ | refine k_inE ?_ | refine k_inO rfl ?_ | refine c_skip ?_ | refine c_ret ?_ | refine c_exit ?_ | refine c_block ?_ | refine r_succ ?_ | refine c_condT h rfl ?_ | refine c_condF h rfl ?_ | (refine st_op (d := 7) rfl rfl h ?_; refine does_box hm rfl rfl ?_; clear h a hm; intro b_7 w hm a h; (fail)) | (refine st_op (d := 8) rfl rfl h ?_; refine does_box hm rfl rfl ?_; clear h a hm; intro b_8 w hm a h; (fail)) | (refine st_op (d := 9) rfl rfl h ?_; refine does_box hm rfl rfl ?_; clear h a hm; intro b_9 w hm a h; (fail)) | (refine st_op (d := 10) rfl rfl h ?_; refine does_box hm rfl rfl ?_; clear h a hm; intro b_10 w hm a h; (fail)) | (refine st_op (d := 11) rfl rfl h ?_; refine does_box hm rfl rfl ?_; clear h a hm; intro b_11 w hm a h; (fail)) | (refine st_op (d := 12) rfl rfl h ?_; refine does_box hm rfl rfl ?_; clear h a hm; intro b_12 w hm a h; (fail)) | (refine st_op (d := 13) rfl rfl h ?_; refine does_box hm rfl rfl ?_; clear h a hm; intro b_13 w hm a h; (fail)) | (refine st_op (d := 14) rfl rfl h ?_; refine does_alloc hm ?_; clear h a hm; intro b_14 w hm a h; (fail)) | (refine st_op (d := 15) rfl rfl h ?_; refine does_alloc hm ?_; clear h a hm; intro b_15 w hm a h; (fail)) | ((fail); clear h a; (fail); intro a h; (fail)) | ((fail); clear h a; intro a h) | ((fail) <;> intro hc <;> (fail)) | (refine st_guardD rfl rfl h ?_ ?_ <;> clear h <;> intro hc h))
    by_cases hz : D.ne ≤ mn D.z0 D.z1 D.z2 D.z3 (↑u + ↑i) (↑v + ↑j) D.nn
    · refine cw_cutN (fun a w => ∃ b18, Mem W0 [] (fun b => W0.heap[b]?) (.blk b18 (.cells [I (prj D.dd D.z D.l D.f ((D.cw * 16).tdiv 2) (mn D.x0 D.x1 D.x2 D.x3 (↑u + ↑i) (↑v + ↑j) D.nn) (mn D.z0 D.z1 D.z2 D.z3 (↑u + ↑i) (↑v + ↑j) D.nn) D.sx), I (prj D.dd D.z D.l D.f ((D.ch * 16).tdiv 2) (mn D.y0 D.y1 D.y2 D.y3 (↑u + ↑i) (↑v + ↑j) D.nn) (mn D.z0 D.z1 D.z2 D.z3 (↑u + ↑i) (↑v + ↑j) D.nn) D.sy), I (mn D.z0 D.z1 D.z2 D.z3 (↑u + ↑i) (↑v + ↑j) D.nn)].toArray 37) :: ((.row (.slice pp vs.length c) 37 3 (vs.map eVec).flatten :: .blk bn (.cells [I ((2 : Nat) : Int)].toArray 3) :: .blk b_15 (.cells [.slice pp vs.length c].toArray 95) :: [.blk b_14 (.cells [.slice none 0 0].toArray 48), .blk b_13 (.cells [I D.sy].toArray 3), .blk b_12 (.cells [I D.sx].toArray 3), .blk b_11 (.cells [I D.nn].toArray 3), .blk b_10 (.cells [.int .i64 v].toArray 3), .blk b_9 (.cells [.int .i64 u].toArray 3), .blk b_8 (.cells D.patC.toArray 40), .blk b_7 (.cells D.camC.toArray 24)]) ++ [.blk lp o, .blk Dd (.deferred (some []))])) w ∧ Holds [(19, .bool true), (18, .pointer (some ⟨b18, 0, none⟩)), (7, .pointer (some ⟨b_7, 0, none⟩)), (8, .pointer (some ⟨b_8, 0, none⟩)), (9, .pointer (some ⟨b_9, 0, none⟩)), (10, .pointer (some ⟨b_10, 0, none⟩)), (11, .pointer (some ⟨b_11, 0, none⟩)), (12, .pointer (some ⟨b_12, 0, none⟩)), (13, .pointer (some ⟨b_13, 0, none⟩)), (14, .pointer (some ⟨b_14, 0, none⟩)), (15, .pointer (some ⟨b_15, 0, none⟩))] 98 a) ?_ ?_
      · skip
        refine hw_region ([.blk b_13 (.cells [I D.sy].toArray 3), .blk b_12 (.cells [I D.sx].toArray 3), .blk b_11 (.cells [I D.nn].toArray 3), .blk b_10 (.cells [.int .i64 v].toArray 3), .blk b_9 (.cells [.int .i64 u].toArray 3), .blk b_8 (.cells D.patC.toArray 40), .blk b_7 (.cells D.camC.toArray 24)]) mixed hm ?_ (by kernel_rfl); clear hm; intro w hm
        refine hw_take 0 rfl (by kernel_rfl) (by kernel_rfl) (by kernel_rfl) rfl rfl rfl h (hm.sub (by repeat' (first | refine slc ?_ | exact sln | refine sld ?_))) (fun w hm => by (refine does_loadOA 6 hm rfl rfl rfl ?_) <;> exact ⟨rfl, rfl⟩) ?_; clear h a; intro a h; (simp only [Value.cells, splice, nqq, Nat.reduceAdd, Nat.reduceMul, Int.reduceAdd, Int.reduceToNat, Int.reduceTMod] at h)
        refine hw_take 1 rfl (by kernel_rfl) (by kernel_rfl) (by kernel_rfl) rfl rfl rfl h (hm.sub (by repeat' (first | refine slc ?_ | exact sln | refine sld ?_))) (fun w hm => by (refine does_loadOA 5 hm rfl rfl rfl ?_) <;> exact ⟨rfl, rfl⟩) ?_; clear h a; intro a h; (simp only [Value.cells, splice, nqq, Nat.reduceAdd, Nat.reduceMul, Int.reduceAdd, Int.reduceToNat, Int.reduceTMod] at h)
        refine hw_take 2 rfl (by kernel_rfl) (by kernel_rfl) (by kernel_rfl) rfl rfl rfl h (hm.sub (by repeat' (first | refine slc ?_ | exact sln | refine sld ?_))) (fun w hm => by (refine does_loadO 4 hm rfl rfl rfl ?_) <;> exact ⟨rfl, rfl⟩) ?_; clear h a; intro a h
        refine hw_take 3 rfl (by kernel_rfl) (by kernel_rfl) (by kernel_rfl) rfl rfl rfl h (hm.sub (by repeat' (first | refine slc ?_ | exact sln | refine sld ?_))) (fun w hm => by refine does_move rfl ?_ <;> exact ⟨rfl, rfl⟩) ?_; clear h a; intro a h
        refine hw_take 4 rfl (by kernel_rfl) (by kernel_rfl) (by kernel_rfl) rfl rfl rfl h (hm.sub (by repeat' (first | refine slc ?_ | exact sln | refine sld ?_))) (fun w hm => by refine does_add rfl rfl (by omega) ?_ <;> exact ⟨rfl, rfl⟩) ?_; clear h a; intro a h
        refine hw_take 5 rfl (by kernel_rfl) (by kernel_rfl) (by kernel_rfl) rfl rfl rfl h (hm.sub (by repeat' (first | refine slc ?_ | exact sln | refine sld ?_))) (fun w hm => by (refine does_loadO 3 hm rfl rfl rfl ?_) <;> exact ⟨rfl, rfl⟩) ?_; clear h a; intro a h
        refine hw_take 6 rfl (by kernel_rfl) (by kernel_rfl) (by kernel_rfl) rfl rfl rfl h (hm.sub (by repeat' (first | refine slc ?_ | exact sln | refine sld ?_))) (fun w hm => by refine does_move rfl ?_ <;> exact ⟨rfl, rfl⟩) ?_; clear h a; intro a h
        refine hw_take 7 rfl (by kernel_rfl) (by kernel_rfl) (by kernel_rfl) rfl rfl rfl h (hm.sub (by repeat' (first | refine slc ?_ | exact sln | refine sld ?_))) (fun w hm => by refine does_add rfl rfl (by omega) ?_ <;> exact ⟨rfl, rfl⟩) ?_; clear h a; intro a h
        refine hw_take 8 rfl (by kernel_rfl) (by kernel_rfl) (by kernel_rfl) rfl rfl rfl h (hm.sub (by repeat' (first | refine slc ?_ | exact sln | refine sld ?_))) (fun w hm => by (refine does_loadO 2 hm rfl rfl rfl ?_) <;> exact ⟨rfl, rfl⟩) ?_; clear h a; intro a h
        refine hw_take 10 rfl (by kernel_rfl) (by kernel_rfl) (by kernel_rfl) rfl rfl rfl h (hm.sub (by repeat' (first | refine slc ?_ | exact sln | refine sld ?_))) (fun w hm => by (refine does_loadO 1 hm rfl rfl rfl ?_) <;> exact ⟨rfl, rfl⟩) ?_; clear h a; intro a h
        refine hw_take 11 rfl (by kernel_rfl) (by kernel_rfl) (by kernel_rfl) rfl rfl rfl h (hm.sub (by repeat' (first | refine slc ?_ | exact sln | refine sld ?_))) (fun w hm => by (refine does_loadO 0 hm rfl rfl rfl ?_) <;> exact ⟨rfl, rfl⟩) ?_; clear h a; intro a h
        refine hw2 9 16 (by decide +kernel) ?_ ?_
        · (refine ho_op rfl rfl rfl h ?_); clear h a; (((refine does_funM hm en61 rfl (evalPatch_ok D.x0 D.y0 D.z0 D.x1 D.y1 D.z1 D.x2 D.y2 D.z2 D.x3 D.y3 D.z3 _ _ _ hn hui hvj) ?_; clear hm; intro w hm))); intro a h; refine ⟨hm.sub (by repeat' (first | refine slc ?_ | exact sln | refine sld ?_)), ?_⟩
          refine hw2 12 16 (by decide +kernel) ?_ ?_
          · (refine ho_op rfl rfl rfl h ?_); clear h a; ((refine does_funM hm en60 rfl (G.project_yes D.cw D.ch D.z D.ne D.dd D.l D.f _ _ _ _ _ hD.cam ⟨ex, ey, ez⟩ hsx hsy hz) ?_; clear hm; intro w hm)); intro a h; refine ⟨hm.sub (by repeat' (first | refine slc ?_ | exact sln | refine sld ?_)), ?_⟩
            refine hw_take 13 rfl (by kernel_rfl) (by kernel_rfl) (by kernel_rfl) rfl rfl rfl h (hm.sub (by repeat' (first | refine slc ?_ | exact sln | refine sld ?_))) (fun w hm => by refine does_move rfl ?_ <;> exact ⟨rfl, rfl⟩) ?_; clear h a; intro a h
            refine hw_take 14 rfl (by kernel_rfl) (by kernel_rfl) (by kernel_rfl) rfl rfl rfl h (hm.sub (by repeat' (first | refine slc ?_ | exact sln | refine sld ?_))) (fun w hm => by refine does_extract rfl rfl ?_ <;> exact ⟨rfl, rfl⟩) ?_; clear h a; intro a h
            refine hw_take 15 rfl (by kernel_rfl) (by kernel_rfl) (by kernel_rfl) rfl rfl rfl h (hm.sub (by repeat' (first | refine slc ?_ | exact sln | refine sld ?_))) (fun w hm => by refine does_extract rfl rfl ?_ <;> exact ⟨rfl, rfl⟩) ?_; clear h a; intro a h
            refine hw1 16 (by decide +kernel) ?_
            (refine ho_op rfl rfl rfl h ?_); clear h a; (refine does_alloc hm ?_; clear hm; intro b w hm); intro a h; refine ⟨hm.sub (by repeat' (first | refine slc ?_ | exact sln | refine sld ?_)), ?_⟩
            refine hw1 17 (by decide +kernel) ?_
            (refine ho_opn rfl rfl h ?_); clear h a; ((refine does_storeO 0 hm rfl rfl rfl rfl rfl rfl rfl ?_; clear hm; intro w hm; (simp only [Value.cells, splice, nqq, Nat.reduceAdd, Nat.reduceMul, Int.reduceAdd, Int.reduceToNat] at hm))); intro a h; refine ⟨hm.sub (by repeat' (first | refine slc ?_ | exact sln | refine sld ?_)), ?_⟩
            refine hw_take 18 rfl (by kernel_rfl) (by kernel_rfl) (by kernel_rfl) rfl rfl rfl h (hm.sub (by repeat' (first | refine slc ?_ | exact sln | refine sld ?_))) (fun w hm => by refine does_assign rfl ?_ <;> exact ⟨rfl, rfl⟩) ?_; clear h a; intro a h
            refine hw0 (by decide +kernel) ?_
            exact ⟨⟨rfl, rfl, _, hm, h.keep ⟨rfl, rfl, rfl, rfl, rfl, rfl, rfl, rfl, rfl, rfl, rfl, trivial⟩⟩⟩
          · (refine ho_op rfl rfl rfl h ?_); clear h a; (refine does_alloc hm ?_; clear hm; intro b w hm); intro a h; refine ⟨hm.sub (by repeat' (first | refine slc ?_ | exact sln | refine sld ?_)), ?_⟩
            refine hw1 12 (by decide +kernel) ?_
            (refine ho_op rfl rfl rfl h ?_); clear h a; ((refine does_funM hm en60 rfl (G.project_yes D.cw D.ch D.z D.ne D.dd D.l D.f _ _ _ _ _ hD.cam ⟨ex, ey, ez⟩ hsx hsy hz) ?_; clear hm; intro w hm)); intro a h; refine ⟨hm.sub (by repeat' (first | refine slc ?_ | exact sln | refine sld ?_)), ?_⟩
            refine hw_take 13 rfl (by kernel_rfl) (by kernel_rfl) (by kernel_rfl) rfl rfl rfl h (hm.sub (by repeat' (first | refine slc ?_ | exact sln | refine sld ?_))) (fun w hm => by refine does_move rfl ?_ <;> exact ⟨rfl, rfl⟩) ?_; clear h a; intro a h
            refine hw_take 14 rfl (by kernel_rfl) (by kernel_rfl) (by kernel_rfl) rfl rfl rfl h (hm.sub (by repeat' (first | refine slc ?_ | exact sln | refine sld ?_))) (fun w hm => by refine does_extract rfl rfl ?_ <;> exact ⟨rfl, rfl⟩) ?_; clear h a; intro a h
            refine hw_take 15 rfl (by kernel_rfl) (by kernel_rfl) (by kernel_rfl) rfl rfl rfl h (hm.sub (by repeat' (first | refine slc ?_ | exact sln | refine sld ?_))) (fun w hm => by refine does_extract rfl rfl ?_ <;> exact ⟨rfl, rfl⟩) ?_; clear h a; intro a h
            refine hw1 17 (by decide +kernel) ?_
            (refine ho_opn rfl rfl h ?_); clear h a; ((refine does_storeO 0 hm rfl rfl rfl rfl rfl rfl rfl ?_; clear hm; intro w hm; (simp only [Value.cells, splice, nqq, Nat.reduceAdd, Nat.reduceMul, Int.reduceAdd, Int.reduceToNat] at hm))); intro a h; refine ⟨hm.sub (by repeat' (first | refine slc ?_ | exact sln | refine sld ?_)), ?_⟩
            refine hw_take 18 rfl (by kernel_rfl) (by kernel_rfl) (by kernel_rfl) rfl rfl rfl h (hm.sub (by repeat' (first | refine slc ?_ | exact sln | refine sld ?_))) (fun w hm => by refine does_assign rfl ?_ <;> exact ⟨rfl, rfl⟩) ?_; clear h a; intro a h
            refine hw0 (by decide +kernel) ?_
            exact ⟨⟨rfl, rfl, _, hm, h.keep ⟨rfl, rfl, rfl, rfl, rfl, rfl, rfl, rfl, rfl, rfl, rfl, trivial⟩⟩⟩
        · (refine ho_op rfl rfl rfl h ?_); clear h a; (refine does_alloc hm ?_; clear hm; intro b w hm); intro a h; refine ⟨hm.sub (by repeat' (first | refine slc ?_ | exact sln | refine sld ?_)), ?_⟩
          refine hw1 9 (by decide +kernel) ?_
          (refine ho_op rfl rfl rfl h ?_); clear h a; (((refine does_funM hm en61 rfl (evalPatch_ok D.x0 D.y0 D.z0 D.x1 D.y1 D.z1 D.x2 D.y2 D.z2 D.x3 D.y3 D.z3 _ _ _ hn hui hvj) ?_; clear hm; intro w hm))); intro a h; refine ⟨hm.sub (by repeat' (first | refine slc ?_ | exact sln | refine sld ?_)), ?_⟩
          refine hw1 12 (by decide +kernel) ?_
          (refine ho_op rfl rfl rfl h ?_); clear h a; ((refine does_funM hm en60 rfl (G.project_yes D.cw D.ch D.z D.ne D.dd D.l D.f _ _ _ _ _ hD.cam ⟨ex, ey, ez⟩ hsx hsy hz) ?_; clear hm; intro w hm)); intro a h; refine ⟨hm.sub (by repeat' (first | refine slc ?_ | exact sln | refine sld ?_)), ?_⟩
          refine hw_take 13 rfl (by kernel_rfl) (by kernel_rfl) (by kernel_rfl) rfl rfl rfl h (hm.sub (by repeat' (first | refine slc ?_ | exact sln | refine sld ?_))) (fun w hm => by refine does_move rfl ?_ <;> exact ⟨rfl, rfl⟩) ?_; clear h a; intro a h
          refine hw_take 14 rfl (by kernel_rfl) (by kernel_rfl) (by kernel_rfl) rfl rfl rfl h (hm.sub (by repeat' (first | refine slc ?_ | exact sln | refine sld ?_))) (fun w hm => by refine does_extract rfl rfl ?_ <;> exact ⟨rfl, rfl⟩) ?_; clear h a; intro a h
          refine hw_take 15 rfl (by kernel_rfl) (by kernel_rfl) (by kernel_rfl) rfl rfl rfl h (hm.sub (by repeat' (first | refine slc ?_ | exact sln | refine sld ?_))) (fun w hm => by refine does_extract rfl rfl ?_ <;> exact ⟨rfl, rfl⟩) ?_; clear h a; intro a h
          refine hw1 17 (by decide +kernel) ?_
          (refine ho_opn rfl rfl h ?_); clear h a; ((refine does_storeO 0 hm rfl rfl rfl rfl rfl rfl rfl ?_; clear hm; intro w hm; (simp only [Value.cells, splice, nqq, Nat.reduceAdd, Nat.reduceMul, Int.reduceAdd, Int.reduceToNat] at hm))); intro a h; refine ⟨hm.sub (by repeat' (first | refine slc ?_ | exact sln | refine sld ?_)), ?_⟩
          refine hw_take 18 rfl (by kernel_rfl) (by kernel_rfl) (by kernel_rfl) rfl rfl rfl h (hm.sub (by repeat' (first | refine slc ?_ | exact sln | refine sld ?_))) (fun w hm => by refine does_assign rfl ?_ <;> exact ⟨rfl, rfl⟩) ?_; clear h a; intro a h
          refine hw0 (by decide +kernel) ?_
          exact ⟨⟨rfl, rfl, _, hm, h.keep ⟨rfl, rfl, rfl, rfl, rfl, rfl, rfl, rfl, rfl, rfl, rfl, trivial⟩⟩⟩
      clear h hm
      rintro a w ⟨b18, hm, h⟩
      repeat' (first | refine c_seq ?_ | refine c_region ?_ | refine c_nil ?_ | refine k_then ?_ | refine k_inN ?_ | refine c_skip ?_ | refine c_condF h rfl ?_ | ((first | refine st_op rfl rfl h ?_ | refine st_opn rfl h ?_); clear h a; (first | (show Does _ (.call _) _ _ _ _; ((refine does_appX 2 (n := vs.length) (news := [I (prj D.dd D.z D.l D.f ((D.cw * 16).tdiv 2) (mn D.x0 D.x1 D.x2 D.x3 (↑u + ↑i) (↑v + ↑j) D.nn) (mn D.z0 D.z1 D.z2 D.z3 (↑u + ↑i) (↑v + ↑j) D.nn) D.sx), I (prj D.dd D.z D.l D.f ((D.ch * 16).tdiv 2) (mn D.y0 D.y1 D.y2 D.y3 (↑u + ↑i) (↑v + ↑j) D.nn) (mn D.z0 D.z1 D.z2 D.z3 (↑u + ↑i) (↑v + ↑j) D.nn) D.sy), I (mn D.z0 D.z1 D.z2 D.z3 (↑u + ↑i) (↑v + ↑j) D.nn)]) hm rfl rfl rfl (by omega) hfl rfl (.inr ⟨_, rfl, at_own (i := 0) hm rfl (fun j v hv => (by rw [Nat.zero_add]; exact hv))⟩) (oneCells_mem rfl) (by omega) (by simp only [maxLen]; omega) ?_; clear hm; intro pp2 c2 w hc8 hc9 hm; simp only [List.set_cons_zero, List.set_cons_succ] at hm))) | (show Does _ (.buildSlice _ _ _) _ _ _ _; (refine does_buildSlice hm rfl rfl rfl ?_; clear hm; intro b w hm; (simp only [rep, nqr, Value.cells, splice, nqq, Nat.reduceAdd, Nat.reduceMul, Int.reduceAdd, Int.reduceToNat] at hm))) | (show Does _ (.store _ _ _) _ _ _ _; ((refine does_storeO 4 hm rfl rfl rfl rfl rfl rfl rfl ?_; clear hm; intro w hm; (simp only [Value.cells, splice, nqq, Nat.reduceAdd, Nat.reduceMul, Int.reduceAdd, Int.reduceToNat] at hm)))) | (show Does _ (.move _) _ _ _ _; refine does_move rfl ?_) | (show Does _ (.load _ _) _ _ _ _; (first | refine does_loadO 3 hm rfl rfl rfl ?_ | refine does_loadOA 0 hm rfl rfl rfl ?_)) | (show Does _ (.unOp _ _ _) _ _ _ _; (refine does_not rfl ?_))); intro a h; (first | simp only [Value.cells, splice, nqq, Nat.reduceAdd, Nat.reduceMul, Int.reduceAdd, Int.reduceToNat, Int.reduceTMod] at h | skip)))
      refine ⟨rfl, .inl ⟨rfl, _, ⟨pp2, c2, vs ++ [D.pv (u + i) (v + j)], ⟨by simp, ⟨hc8, hc9⟩, fun x hx => by (rcases List.mem_append.1 hx with hx | hx; exact hvs x hx; rw [List.mem_singleton] at hx; exact hx ▸ ⟨_, _, hui, hvj, hz, rfl⟩)⟩, rfl⟩, by (rw [List.length_append, List.map_append, List.flatten_append]; exact hm.drop.drop)⟩⟩
    · refine cw_cutN (fun a w => ∃ b18, Mem W0 [] (fun b => W0.heap[b]?) (.blk b18 (.cells [I 0, I 0, I 0].toArray 37) :: ((.row (.slice pp vs.length c) 37 3 (vs.map eVec).flatten :: .blk bn (.cells [I ((2 : Nat) : Int)].toArray 3) :: .blk b_15 (.cells [.slice pp vs.length c].toArray 95) :: [.blk b_14 (.cells [.slice none 0 0].toArray 48), .blk b_13 (.cells [I D.sy].toArray 3), .blk b_12 (.cells [I D.sx].toArray 3), .blk b_11 (.cells [I D.nn].toArray 3), .blk b_10 (.cells [.int .i64 v].toArray 3), .blk b_9 (.cells [.int .i64 u].toArray 3), .blk b_8 (.cells D.patC.toArray 40), .blk b_7 (.cells D.camC.toArray 24)]) ++ [.blk lp o, .blk Dd (.deferred (some []))])) w ∧ Holds [(19, .bool false), (18, .pointer (some ⟨b18, 0, none⟩)), (7, .pointer (some ⟨b_7, 0, none⟩)), (8, .pointer (some ⟨b_8, 0, none⟩)), (9, .pointer (some ⟨b_9, 0, none⟩)), (10, .pointer (some ⟨b_10, 0, none⟩)), (11, .pointer (some ⟨b_11, 0, none⟩)), (12, .pointer (some ⟨b_12, 0, none⟩)), (13, .pointer (some ⟨b_13, 0, none⟩)), (14, .pointer (some ⟨b_14, 0, none⟩)), (15, .pointer (some ⟨b_15, 0, none⟩))] 98 a) ?_ ?_
      · skip
        refine hw_region ([.blk b_13 (.cells [I D.sy].toArray 3), .blk b_12 (.cells [I D.sx].toArray 3), .blk b_11 (.cells [I D.nn].toArray 3), .blk b_10 (.cells [.int .i64 v].toArray 3), .blk b_9 (.cells [.int .i64 u].toArray 3), .blk b_8 (.cells D.patC.toArray 40), .blk b_7 (.cells D.camC.toArray 24)]) mixed hm ?_ (by kernel_rfl); clear hm; intro w hm
        refine hw_take 0 rfl (by kernel_rfl) (by kernel_rfl) (by kernel_rfl) rfl rfl rfl h (hm.sub (by repeat' (first | refine slc ?_ | exact sln | refine sld ?_))) (fun w hm => by (refine does_loadOA 6 hm rfl rfl rfl ?_) <;> exact ⟨rfl, rfl⟩) ?_; clear h a; intro a h; (simp only [Value.cells, splice, nqq, Nat.reduceAdd, Nat.reduceMul, Int.reduceAdd, Int.reduceToNat, Int.reduceTMod] at h)
        refine hw_take 1 rfl (by kernel_rfl) (by kernel_rfl) (by kernel_rfl) rfl rfl rfl h (hm.sub (by repeat' (first | refine slc ?_ | exact sln | refine sld ?_))) (fun w hm => by (refine does_loadOA 5 hm rfl rfl rfl ?_) <;> exact ⟨rfl, rfl⟩) ?_; clear h a; intro a h; (simp only [Value.cells, splice, nqq, Nat.reduceAdd, Nat.reduceMul, Int.reduceAdd, Int.reduceToNat, Int.reduceTMod] at h)
        refine hw_take 2 rfl (by kernel_rfl) (by kernel_rfl) (by kernel_rfl) rfl rfl rfl h (hm.sub (by repeat' (first | refine slc ?_ | exact sln | refine sld ?_))) (fun w hm => by (refine does_loadO 4 hm rfl rfl rfl ?_) <;> exact ⟨rfl, rfl⟩) ?_; clear h a; intro a h
        refine hw_take 3 rfl (by kernel_rfl) (by kernel_rfl) (by kernel_rfl) rfl rfl rfl h (hm.sub (by repeat' (first | refine slc ?_ | exact sln | refine sld ?_))) (fun w hm => by refine does_move rfl ?_ <;> exact ⟨rfl, rfl⟩) ?_; clear h a; intro a h
        refine hw_take 4 rfl (by kernel_rfl) (by kernel_rfl) (by kernel_rfl) rfl rfl rfl h (hm.sub (by repeat' (first | refine slc ?_ | exact sln | refine sld ?_))) (fun w hm => by refine does_add rfl rfl (by omega) ?_ <;> exact ⟨rfl, rfl⟩) ?_; clear h a; intro a h
        refine hw_take 5 rfl (by kernel_rfl) (by kernel_rfl) (by kernel_rfl) rfl rfl rfl h (hm.sub (by repeat' (first | refine slc ?_ | exact sln | refine sld ?_))) (fun w hm => by (refine does_loadO 3 hm rfl rfl rfl ?_) <;> exact ⟨rfl, rfl⟩) ?_; clear h a; intro a h
        refine hw_take 6 rfl (by kernel_rfl) (by kernel_rfl) (by kernel_rfl) rfl rfl rfl h (hm.sub (by repeat' (first | refine slc ?_ | exact sln | refine sld ?_))) (fun w hm => by refine does_move rfl ?_ <;> exact ⟨rfl, rfl⟩) ?_; clear h a; intro a h
        refine hw_take 7 rfl (by kernel_rfl) (by kernel_rfl) (by kernel_rfl) rfl rfl rfl h (hm.sub (by repeat' (first | refine slc ?_ | exact sln | refine sld ?_))) (fun w hm => by refine does_add rfl rfl (by omega) ?_ <;> exact ⟨rfl, rfl⟩) ?_; clear h a; intro a h
        refine hw_take 8 rfl (by kernel_rfl) (by kernel_rfl) (by kernel_rfl) rfl rfl rfl h (hm.sub (by repeat' (first | refine slc ?_ | exact sln | refine sld ?_))) (fun w hm => by (refine does_loadO 2 hm rfl rfl rfl ?_) <;> exact ⟨rfl, rfl⟩) ?_; clear h a; intro a h
        refine hw_take 10 rfl (by kernel_rfl) (by kernel_rfl) (by kernel_rfl) rfl rfl rfl h (hm.sub (by repeat' (first | refine slc ?_ | exact sln | refine sld ?_))) (fun w hm => by (refine does_loadO 1 hm rfl rfl rfl ?_) <;> exact ⟨rfl, rfl⟩) ?_; clear h a; intro a h
        refine hw_take 11 rfl (by kernel_rfl) (by kernel_rfl) (by kernel_rfl) rfl rfl rfl h (hm.sub (by repeat' (first | refine slc ?_ | exact sln | refine sld ?_))) (fun w hm => by (refine does_loadO 0 hm rfl rfl rfl ?_) <;> exact ⟨rfl, rfl⟩) ?_; clear h a; intro a h
        refine hw2 9 16 (by decide +kernel) ?_ ?_
        · (refine ho_op rfl rfl rfl h ?_); clear h a; (((refine does_funM hm en61 rfl (evalPatch_ok D.x0 D.y0 D.z0 D.x1 D.y1 D.z1 D.x2 D.y2 D.z2 D.x3 D.y3 D.z3 _ _ _ hn hui hvj) ?_; clear hm; intro w hm))); intro a h; refine ⟨hm.sub (by repeat' (first | refine slc ?_ | exact sln | refine sld ?_)), ?_⟩
          refine hw2 12 16 (by decide +kernel) ?_ ?_
          · (refine ho_op rfl rfl rfl h ?_); clear h a; ((refine does_funM hm en60 rfl (G.project_no D.cw D.ch D.z D.ne D.dd D.l D.f _ _ _ _ _ hD.cam ⟨ex, ey, ez⟩ hsx hsy (by omega)) ?_; clear hm; intro w hm)); intro a h; refine ⟨hm.sub (by repeat' (first | refine slc ?_ | exact sln | refine sld ?_)), ?_⟩
            refine hw_take 13 rfl (by kernel_rfl) (by kernel_rfl) (by kernel_rfl) rfl rfl rfl h (hm.sub (by repeat' (first | refine slc ?_ | exact sln | refine sld ?_))) (fun w hm => by refine does_move rfl ?_ <;> exact ⟨rfl, rfl⟩) ?_; clear h a; intro a h
            refine hw_take 14 rfl (by kernel_rfl) (by kernel_rfl) (by kernel_rfl) rfl rfl rfl h (hm.sub (by repeat' (first | refine slc ?_ | exact sln | refine sld ?_))) (fun w hm => by refine does_extract rfl rfl ?_ <;> exact ⟨rfl, rfl⟩) ?_; clear h a; intro a h
            refine hw_take 15 rfl (by kernel_rfl) (by kernel_rfl) (by kernel_rfl) rfl rfl rfl h (hm.sub (by repeat' (first | refine slc ?_ | exact sln | refine sld ?_))) (fun w hm => by refine does_extract rfl rfl ?_ <;> exact ⟨rfl, rfl⟩) ?_; clear h a; intro a h
            refine hw1 16 (by decide +kernel) ?_
            (refine ho_op rfl rfl rfl h ?_); clear h a; (refine does_alloc hm ?_; clear hm; intro b w hm); intro a h; refine ⟨hm.sub (by repeat' (first | refine slc ?_ | exact sln | refine sld ?_)), ?_⟩
            refine hw1 17 (by decide +kernel) ?_
            (refine ho_opn rfl rfl h ?_); clear h a; ((refine does_storeO 0 hm rfl rfl rfl rfl rfl rfl rfl ?_; clear hm; intro w hm; (simp only [Value.cells, splice, nqq, Nat.reduceAdd, Nat.reduceMul, Int.reduceAdd, Int.reduceToNat] at hm))); intro a h; refine ⟨hm.sub (by repeat' (first | refine slc ?_ | exact sln | refine sld ?_)), ?_⟩
            refine hw_take 18 rfl (by kernel_rfl) (by kernel_rfl) (by kernel_rfl) rfl rfl rfl h (hm.sub (by repeat' (first | refine slc ?_ | exact sln | refine sld ?_))) (fun w hm => by refine does_assign rfl ?_ <;> exact ⟨rfl, rfl⟩) ?_; clear h a; intro a h
            refine hw0 (by decide +kernel) ?_
            exact ⟨⟨rfl, rfl, _, hm, h.keep ⟨rfl, rfl, rfl, rfl, rfl, rfl, rfl, rfl, rfl, rfl, rfl, trivial⟩⟩⟩
          · (refine ho_op rfl rfl rfl h ?_); clear h a; (refine does_alloc hm ?_; clear hm; intro b w hm); intro a h; refine ⟨hm.sub (by repeat' (first | refine slc ?_ | exact sln | refine sld ?_)), ?_⟩
            refine hw1 12 (by decide +kernel) ?_
            (refine ho_op rfl rfl rfl h ?_); clear h a; ((refine does_funM hm en60 rfl (G.project_no D.cw D.ch D.z D.ne D.dd D.l D.f _ _ _ _ _ hD.cam ⟨ex, ey, ez⟩ hsx hsy (by omega)) ?_; clear hm; intro w hm)); intro a h; refine ⟨hm.sub (by repeat' (first | refine slc ?_ | exact sln | refine sld ?_)), ?_⟩
            refine hw_take 13 rfl (by kernel_rfl) (by kernel_rfl) (by kernel_rfl) rfl rfl rfl h (hm.sub (by repeat' (first | refine slc ?_ | exact sln | refine sld ?_))) (fun w hm => by refine does_move rfl ?_ <;> exact ⟨rfl, rfl⟩) ?_; clear h a; intro a h
            refine hw_take 14 rfl (by kernel_rfl) (by kernel_rfl) (by kernel_rfl) rfl rfl rfl h (hm.sub (by repeat' (first | refine slc ?_ | exact sln | refine sld ?_))) (fun w hm => by refine does_extract rfl rfl ?_ <;> exact ⟨rfl, rfl⟩) ?_; clear h a; intro a h
            refine hw_take 15 rfl (by kernel_rfl) (by kernel_rfl) (by kernel_rfl) rfl rfl rfl h (hm.sub (by repeat' (first | refine slc ?_ | exact sln | refine sld ?_))) (fun w hm => by refine does_extract rfl rfl ?_ <;> exact ⟨rfl, rfl⟩) ?_; clear h a; intro a h
            refine hw1 17 (by decide +kernel) ?_
            (refine ho_opn rfl rfl h ?_); clear h a; ((refine does_storeO 0 hm rfl rfl rfl rfl rfl rfl rfl ?_; clear hm; intro w hm; (simp only [Value.cells, splice, nqq, Nat.reduceAdd, Nat.reduceMul, Int.reduceAdd, Int.reduceToNat] at hm))); intro a h; refine ⟨hm.sub (by repeat' (first | refine slc ?_ | exact sln | refine sld ?_)), ?_⟩
            refine hw_take 18 rfl (by kernel_rfl) (by kernel_rfl) (by kernel_rfl) rfl rfl rfl h (hm.sub (by repeat' (first | refine slc ?_ | exact sln | refine sld ?_))) (fun w hm => by refine does_assign rfl ?_ <;> exact ⟨rfl, rfl⟩) ?_; clear h a; intro a h
            refine hw0 (by decide +kernel) ?_
            exact ⟨⟨rfl, rfl, _, hm, h.keep ⟨rfl, rfl, rfl, rfl, rfl, rfl, rfl, rfl, rfl, rfl, rfl, trivial⟩⟩⟩
        · (refine ho_op rfl rfl rfl h ?_); clear h a; (refine does_alloc hm ?_; clear hm; intro b w hm); intro a h; refine ⟨hm.sub (by repeat' (first | refine slc ?_ | exact sln | refine sld ?_)), ?_⟩
          refine hw1 9 (by decide +kernel) ?_
          (refine ho_op rfl rfl rfl h ?_); clear h a; (((refine does_funM hm en61 rfl (evalPatch_ok D.x0 D.y0 D.z0 D.x1 D.y1 D.z1 D.x2 D.y2 D.z2 D.x3 D.y3 D.z3 _ _ _ hn hui hvj) ?_; clear hm; intro w hm))); intro a h; refine ⟨hm.sub (by repeat' (first | refine slc ?_ | exact sln | refine sld ?_)), ?_⟩
          refine hw1 12 (by decide +kernel) ?_
          (refine ho_op rfl rfl rfl h ?_); clear h a; ((refine does_funM hm en60 rfl (G.project_no D.cw D.ch D.z D.ne D.dd D.l D.f _ _ _ _ _ hD.cam ⟨ex, ey, ez⟩ hsx hsy (by omega)) ?_; clear hm; intro w hm)); intro a h; refine ⟨hm.sub (by repeat' (first | refine slc ?_ | exact sln | refine sld ?_)), ?_⟩
          refine hw_take 13 rfl (by kernel_rfl) (by kernel_rfl) (by kernel_rfl) rfl rfl rfl h (hm.sub (by repeat' (first | refine slc ?_ | exact sln | refine sld ?_))) (fun w hm => by refine does_move rfl ?_ <;> exact ⟨rfl, rfl⟩) ?_; clear h a; intro a h
          refine hw_take 14 rfl (by kernel_rfl) (by kernel_rfl) (by kernel_rfl) rfl rfl rfl h (hm.sub (by repeat' (first | refine slc ?_ | exact sln | refine sld ?_))) (fun w hm => by refine does_extract rfl rfl ?_ <;> exact ⟨rfl, rfl⟩) ?_; clear h a; intro a h
          refine hw_take 15 rfl (by kernel_rfl) (by kernel_rfl) (by kernel_rfl) rfl rfl rfl h (hm.sub (by repeat' (first | refine slc ?_ | exact sln | refine sld ?_))) (fun w hm => by refine does_extract rfl rfl ?_ <;> exact ⟨rfl, rfl⟩) ?_; clear h a; intro a h
          refine hw1 17 (by decide +kernel) ?_
          (refine ho_opn rfl rfl h ?_); clear h a; ((refine does_storeO 0 hm rfl rfl rfl rfl rfl rfl rfl ?_; clear hm; intro w hm; (simp only [Value.cells, splice, nqq, Nat.reduceAdd, Nat.reduceMul, Int.reduceAdd, Int.reduceToNat] at hm))); intro a h; refine ⟨hm.sub (by repeat' (first | refine slc ?_ | exact sln | refine sld ?_)), ?_⟩
          refine hw_take 18 rfl (by kernel_rfl) (by kernel_rfl) (by kernel_rfl) rfl rfl rfl h (hm.sub (by repeat' (first | refine slc ?_ | exact sln | refine sld ?_))) (fun w hm => by refine does_assign rfl ?_ <;> exact ⟨rfl, rfl⟩) ?_; clear h a; intro a h
          refine hw0 (by decide +kernel) ?_
          exact ⟨⟨rfl, rfl, _, hm, h.keep ⟨rfl, rfl, rfl, rfl, rfl, rfl, rfl, rfl, rfl, rfl, rfl, trivial⟩⟩⟩
      clear h hm
      rintro a w ⟨b18, hm, h⟩
      repeat' (first | refine c_seq ?_ | refine c_region ?_ | refine c_nil ?_ | refine k_then ?_ | refine k_thenR ?_ | refine k_inR ?_ | refine c_ret ?_ | refine c_condT h rfl ?_ | ((first | refine st_op rfl rfl h ?_ | refine st_opn rfl h ?_); clear h a; (first | (show Does _ (.store _ _ _) _ _ _ _; ((refine does_storeO 4 hm rfl rfl rfl rfl rfl rfl rfl ?_; clear hm; intro w hm; (simp only [Value.cells, splice, nqq, Nat.reduceAdd, Nat.reduceMul, Int.reduceAdd, Int.reduceToNat] at hm)))) | (show Does _ (.move _) _ _ _ _; refine does_move rfl ?_) | (show Does _ (.unOp _ _ _) _ _ _ _; (refine does_not rfl ?_))); intro a h))
      exact ⟨rfl, .inr ⟨rfl, _, rfl, hm.sub (by repeat' (first | exact sln | refine slc ?_ | refine sld ?_))⟩⟩
  · clear h hm a w
    rintro lp Dd o Lk w a rfl hm h
    simp only [List.cons_append, List.nil_append] at hm
    replace hm := hm.addNil 55 12
    refine k_blockR (k_thenR ?_)
    exact k_retM (i := 3) (vs := [_]) rfl h hm rfl (fun w hm => ⟨⟨rv_cell1 (i := 1) hm rfl rfl rfl, trivial⟩, [.row (.slice none 0 0) 55 12 []], ⟨none, 0, [], rfl, rfl, by simp, by simp⟩, hm.sub (by repeat' (first | exact sln | refine slc ?_))⟩)
  · clear h hm a w
    rintro lp Dd o Lk w a ⟨pp, c, vs, ⟨hl4, ⟨hc1, hc2⟩, hvs⟩, rfl⟩ hm h
    simp only [List.cons_append, List.nil_append] at hm
    match vs, hl4, hvs, hm with
    | [v1, v2, v3, v4], _, hvs, hm =>
    have g1 := hvs v1 (by simp)
    have g2 := hvs v2 (by simp)
    have g3 := hvs v3 (by simp)
    have g4 := hvs v4 (by simp)
    obtain ⟨v1x, v1y, v1z⟩ := v1
    obtain ⟨v2x, v2y, v2z⟩ := v2
    obtain ⟨v3x, v3y, v3z⟩ := v3
    obtain ⟨v4x, v4y, v4z⟩ := v4
    obtain ⟨B1, p1, n1, c1, hle, hm, he, hl, _, _, hA4⟩ := hm.freeze
    cases he
    obtain ⟨b1, rfl, hAt⟩ := hA4 (by simp)
    replace hAt : At B1 ⟨b1, 0, none⟩ [I v1x, I v1y, I v1z, I v2x, I v2y, I v2z, I v3x, I v3y, I v3z, I v4x, I v4y, I v4z] := hAt
    simp only [List.length_cons, List.length_nil, Nat.zero_add, Nat.reduceAdd] at hm
    have hA0 : At B1 ⟨b1, 0, none⟩ [I v1x, I v1y, I v1z] := At.pre (ds := [I v2x, I v2y, I v2z, I v3x, I v3y, I v3z, I v4x, I v4y, I v4z]) hAt
    have hA1 : At B1 ⟨b1, 3, none⟩ [I v2x, I v2y, I v2z] := At.pre (ds := [I v3x, I v3y, I v3z, I v4x, I v4y, I v4z]) (by have := hAt.add 3; rw [add_add _ 0 _ rfl] at this; exact this)
    have hA2 : At B1 ⟨b1, 6, none⟩ [I v3x, I v3y, I v3z] := At.pre (ds := [I v4x, I v4y, I v4z]) (by have := hAt.add 6; rw [add_add _ 0 _ rfl] at this; exact this)
    have hA3 : At B1 ⟨b1, 9, none⟩ [I v4x, I v4y, I v4z] := (by have := hAt.add 9; rw [add_add _ 0 _ rfl] at this; exact this)
    clear hA4 hAt
    repeat' (first | refine c_seq ?_ | refine k_then ?_ | refine k_inN ?_)
    refine cw_cutN (fun a w => ∃ q20 q21 q22 q23, Mem W0 [] B1 (.blk q20 (.cells [I v1x, I v1y, I v1z].toArray 37) :: .blk q21 (.cells [I v2x, I v2y, I v2z].toArray 37) :: .blk q22 (.cells [I v3x, I v3y, I v3z].toArray 37) :: .blk q23 (.cells [I v4x, I v4y, I v4z].toArray 37) :: .blk bn (.cells [I ((2 : Nat) : Int)].toArray 3) :: .blk b_15 (.cells [.slice (some ⟨b1, 0, none⟩) 4 c].toArray 95) :: [.blk b_14 (.cells [.slice none 0 0].toArray 48), .blk b_13 (.cells [I D.sy].toArray 3), .blk b_12 (.cells [I D.sx].toArray 3), .blk b_11 (.cells [I D.nn].toArray 3), .blk b_10 (.cells [.int .i64 v].toArray 3), .blk b_9 (.cells [.int .i64 u].toArray 3), .blk b_8 (.cells D.patC.toArray 40), .blk b_7 (.cells D.camC.toArray 24)] ++ [.blk lp o, .blk Dd (.deferred (some []))]) w ∧ Holds [(20, .pointer (some ⟨q20, 0, none⟩)), (21, .pointer (some ⟨q21, 0, none⟩)), (22, .pointer (some ⟨q22, 0, none⟩)), (23, .pointer (some ⟨q23, 0, none⟩)), (7, .pointer (some ⟨b_7, 0, none⟩)), (8, .pointer (some ⟨b_8, 0, none⟩)), (9, .pointer (some ⟨b_9, 0, none⟩)), (10, .pointer (some ⟨b_10, 0, none⟩)), (11, .pointer (some ⟨b_11, 0, none⟩)), (12, .pointer (some ⟨b_12, 0, none⟩)), (13, .pointer (some ⟨b_13, 0, none⟩)), (14, .pointer (some ⟨b_14, 0, none⟩)), (15, .pointer (some ⟨b_15, 0, none⟩))] 98 a) ?_ ?_
    · skip
      refine hw_region ([.blk b_15 (.cells [.slice (some ⟨b1, 0, none⟩) 4 c].toArray 95)]) mixed hm ?_ (by kernel_rfl); clear hm; intro w hm
      refine hw_take 0 rfl (by kernel_rfl) (by kernel_rfl) (by kernel_rfl) rfl rfl rfl h (hm.sub (by repeat' (first | refine slc ?_ | exact sln | refine sld ?_))) (fun w hm => by (refine does_loadO 0 hm rfl rfl rfl ?_) <;> exact ⟨rfl, rfl⟩) ?_; clear h a; intro a h
      refine hw_take 1 rfl (by kernel_rfl) (by kernel_rfl) (by kernel_rfl) rfl rfl rfl h (hm.sub (by repeat' (first | refine slc ?_ | exact sln | refine sld ?_))) (fun w hm => by (refine does_indexSL (by omega) rfl rfl ?_) <;> exact ⟨rfl, rfl⟩) ?_; clear h a; intro a h; (simp only [Value.cells, splice, nqq, Nat.reduceAdd, Nat.reduceMul, Int.reduceAdd, Int.reduceToNat, Int.reduceTMod] at h)
      refine hw_take 2 rfl (by kernel_rfl) (by kernel_rfl) (by kernel_rfl) rfl rfl rfl h (hm.sub (by repeat' (first | refine slc ?_ | exact sln | refine sld ?_))) (fun w hm => by (refine does_loadBA hm rfl (by assumption) rfl ?_) <;> exact ⟨rfl, rfl⟩) ?_; clear h a; intro a h
      refine hw_take 3 rfl (by kernel_rfl) (by kernel_rfl) (by kernel_rfl) rfl rfl rfl h (hm.sub (by repeat' (first | refine slc ?_ | exact sln | refine sld ?_))) (fun w hm => by (refine does_loadO 0 hm rfl rfl rfl ?_) <;> exact ⟨rfl, rfl⟩) ?_; clear h a; intro a h
      refine hw_take 4 rfl (by kernel_rfl) (by kernel_rfl) (by kernel_rfl) rfl rfl rfl h (hm.sub (by repeat' (first | refine slc ?_ | exact sln | refine sld ?_))) (fun w hm => by (refine does_indexSL (by omega) rfl rfl ?_) <;> exact ⟨rfl, rfl⟩) ?_; clear h a; intro a h; (simp only [Value.cells, splice, nqq, Nat.reduceAdd, Nat.reduceMul, Int.reduceAdd, Int.reduceToNat, Int.reduceTMod] at h)
      refine hw_take 5 rfl (by kernel_rfl) (by kernel_rfl) (by kernel_rfl) rfl rfl rfl h (hm.sub (by repeat' (first | refine slc ?_ | exact sln | refine sld ?_))) (fun w hm => by (refine does_loadBA hm rfl (by assumption) rfl ?_) <;> exact ⟨rfl, rfl⟩) ?_; clear h a; intro a h
      refine hw_take 6 rfl (by kernel_rfl) (by kernel_rfl) (by kernel_rfl) rfl rfl rfl h (hm.sub (by repeat' (first | refine slc ?_ | exact sln | refine sld ?_))) (fun w hm => by (refine does_loadO 0 hm rfl rfl rfl ?_) <;> exact ⟨rfl, rfl⟩) ?_; clear h a; intro a h
      refine hw_take 7 rfl (by kernel_rfl) (by kernel_rfl) (by kernel_rfl) rfl rfl rfl h (hm.sub (by repeat' (first | refine slc ?_ | exact sln | refine sld ?_))) (fun w hm => by (refine does_indexSL (by omega) rfl rfl ?_) <;> exact ⟨rfl, rfl⟩) ?_; clear h a; intro a h; (simp only [Value.cells, splice, nqq, Nat.reduceAdd, Nat.reduceMul, Int.reduceAdd, Int.reduceToNat, Int.reduceTMod] at h)
      refine hw_take 8 rfl (by kernel_rfl) (by kernel_rfl) (by kernel_rfl) rfl rfl rfl h (hm.sub (by repeat' (first | refine slc ?_ | exact sln | refine sld ?_))) (fun w hm => by (refine does_loadBA hm rfl (by assumption) rfl ?_) <;> exact ⟨rfl, rfl⟩) ?_; clear h a; intro a h
      refine hw_take 9 rfl (by kernel_rfl) (by kernel_rfl) (by kernel_rfl) rfl rfl rfl h (hm.sub (by repeat' (first | refine slc ?_ | exact sln | refine sld ?_))) (fun w hm => by (refine does_loadO 0 hm rfl rfl rfl ?_) <;> exact ⟨rfl, rfl⟩) ?_; clear h a; intro a h
      refine hw_take 10 rfl (by kernel_rfl) (by kernel_rfl) (by kernel_rfl) rfl rfl rfl h (hm.sub (by repeat' (first | refine slc ?_ | exact sln | refine sld ?_))) (fun w hm => by (refine does_indexSL (by omega) rfl rfl ?_) <;> exact ⟨rfl, rfl⟩) ?_; clear h a; intro a h; (simp only [Value.cells, splice, nqq, Nat.reduceAdd, Nat.reduceMul, Int.reduceAdd, Int.reduceToNat, Int.reduceTMod] at h)
      refine hw_take 11 rfl (by kernel_rfl) (by kernel_rfl) (by kernel_rfl) rfl rfl rfl h (hm.sub (by repeat' (first | refine slc ?_ | exact sln | refine sld ?_))) (fun w hm => by (refine does_loadBA hm rfl (by assumption) rfl ?_) <;> exact ⟨rfl, rfl⟩) ?_; clear h a; intro a h
      refine hw4 12 13 14 15 (by decide +kernel) ?_ ?_ ?_ ?_
      · (refine ho_op rfl rfl rfl h ?_); clear h a; (refine does_alloc hm ?_; clear hm; intro b w hm); intro a h; refine ⟨hm.sub (by repeat' (first | refine slc ?_ | exact sln | refine sld ?_)), ?_⟩
        refine hw3 13 14 15 (by decide +kernel) ?_ ?_ ?_
        · (refine ho_op rfl rfl rfl h ?_); clear h a; (refine does_alloc hm ?_; clear hm; intro b w hm); intro a h; refine ⟨hm.sub (by repeat' (first | refine slc ?_ | exact sln | refine sld ?_)), ?_⟩
          refine hw2 14 15 (by decide +kernel) ?_ ?_
          · (refine ho_op rfl rfl rfl h ?_); clear h a; (refine does_alloc hm ?_; clear hm; intro b w hm); intro a h; refine ⟨hm.sub (by repeat' (first | refine slc ?_ | exact sln | refine sld ?_)), ?_⟩
            refine hw1 15 (by decide +kernel) ?_
            (refine ho_op rfl rfl rfl h ?_); clear h a; (refine does_alloc hm ?_; clear hm; intro b w hm); intro a h; refine ⟨hm.sub (by repeat' (first | refine slc ?_ | exact sln | refine sld ?_)), ?_⟩
            refine hw1 16 (by decide +kernel) ?_
            (refine ho_opn rfl rfl h ?_); clear h a; ((refine does_storeO 3 hm rfl rfl rfl rfl rfl rfl rfl ?_; clear hm; intro w hm; (simp only [Value.cells, splice, nqq, Nat.reduceAdd, Nat.reduceMul, Int.reduceAdd, Int.reduceToNat] at hm))); intro a h; refine ⟨hm.sub (by repeat' (first | refine slc ?_ | exact sln | refine sld ?_)), ?_⟩
            refine hw1 17 (by decide +kernel) ?_
            (refine ho_opn rfl rfl h ?_); clear h a; ((refine does_storeO 2 hm rfl rfl rfl rfl rfl rfl rfl ?_; clear hm; intro w hm; (simp only [Value.cells, splice, nqq, Nat.reduceAdd, Nat.reduceMul, Int.reduceAdd, Int.reduceToNat] at hm))); intro a h; refine ⟨hm.sub (by repeat' (first | refine slc ?_ | exact sln | refine sld ?_)), ?_⟩
            refine hw1 18 (by decide +kernel) ?_
            (refine ho_opn rfl rfl h ?_); clear h a; ((refine does_storeO 1 hm rfl rfl rfl rfl rfl rfl rfl ?_; clear hm; intro w hm; (simp only [Value.cells, splice, nqq, Nat.reduceAdd, Nat.reduceMul, Int.reduceAdd, Int.reduceToNat] at hm))); intro a h; refine ⟨hm.sub (by repeat' (first | refine slc ?_ | exact sln | refine sld ?_)), ?_⟩
            refine hw1 19 (by decide +kernel) ?_
            (refine ho_opn rfl rfl h ?_); clear h a; ((refine does_storeO 0 hm rfl rfl rfl rfl rfl rfl rfl ?_; clear hm; intro w hm; (simp only [Value.cells, splice, nqq, Nat.reduceAdd, Nat.reduceMul, Int.reduceAdd, Int.reduceToNat] at hm))); intro a h; refine ⟨hm.sub (by repeat' (first | refine slc ?_ | exact sln | refine sld ?_)), ?_⟩
            refine hw0 (by decide +kernel) ?_
            refine ⟨⟨rfl, rfl, _, _, _, _, ?_, h.keep ⟨rfl, rfl, rfl, rfl, rfl, rfl, rfl, rfl, rfl, rfl, rfl, rfl, rfl, trivial⟩⟩⟩; refine hm.perm ?_; (refine perm3 ?_); (refine perm2 ?_); (refine perm1 ?_); exact List.Perm.refl _
          · (refine ho_op rfl rfl rfl h ?_); clear h a; (refine does_alloc hm ?_; clear hm; intro b w hm); intro a h; refine ⟨hm.sub (by repeat' (first | refine slc ?_ | exact sln | refine sld ?_)), ?_⟩
            refine hw1 14 (by decide +kernel) ?_
            (refine ho_op rfl rfl rfl h ?_); clear h a; (refine does_alloc hm ?_; clear hm; intro b w hm); intro a h; refine ⟨hm.sub (by repeat' (first | refine slc ?_ | exact sln | refine sld ?_)), ?_⟩
            refine hw1 16 (by decide +kernel) ?_
            (refine ho_opn rfl rfl h ?_); clear h a; ((refine does_storeO 3 hm rfl rfl rfl rfl rfl rfl rfl ?_; clear hm; intro w hm; (simp only [Value.cells, splice, nqq, Nat.reduceAdd, Nat.reduceMul, Int.reduceAdd, Int.reduceToNat] at hm))); intro a h; refine ⟨hm.sub (by repeat' (first | refine slc ?_ | exact sln | refine sld ?_)), ?_⟩
            refine hw1 17 (by decide +kernel) ?_
            (refine ho_opn rfl rfl h ?_); clear h a; ((refine does_storeO 2 hm rfl rfl rfl rfl rfl rfl rfl ?_; clear hm; intro w hm; (simp only [Value.cells, splice, nqq, Nat.reduceAdd, Nat.reduceMul, Int.reduceAdd, Int.reduceToNat] at hm))); intro a h; refine ⟨hm.sub (by repeat' (first | refine slc ?_ | exact sln | refine sld ?_)), ?_⟩
            refine hw1 18 (by decide +kernel) ?_
            (refine ho_opn rfl rfl h ?_); clear h a; ((refine does_storeO 0 hm rfl rfl rfl rfl rfl rfl rfl ?_; clear hm; intro w hm; (simp only [Value.cells, splice, nqq, Nat.reduceAdd, Nat.reduceMul, Int.reduceAdd, Int.reduceToNat] at hm))); intro a h; refine ⟨hm.sub (by repeat' (first | refine slc ?_ | exact sln | refine sld ?_)), ?_⟩
            refine hw1 19 (by decide +kernel) ?_
            (refine ho_opn rfl rfl h ?_); clear h a; ((refine does_storeO 1 hm rfl rfl rfl rfl rfl rfl rfl ?_; clear hm; intro w hm; (simp only [Value.cells, splice, nqq, Nat.reduceAdd, Nat.reduceMul, Int.reduceAdd, Int.reduceToNat] at hm))); intro a h; refine ⟨hm.sub (by repeat' (first | refine slc ?_ | exact sln | refine sld ?_)), ?_⟩
            refine hw0 (by decide +kernel) ?_
            refine ⟨⟨rfl, rfl, _, _, _, _, ?_, h.keep ⟨rfl, rfl, rfl, rfl, rfl, rfl, rfl, rfl, rfl, rfl, rfl, rfl, rfl, trivial⟩⟩⟩; refine hm.perm ?_; (refine perm3 ?_); (refine perm2 ?_); (refine List.Perm.cons _ ?_); exact List.Perm.refl _
        · (refine ho_op rfl rfl rfl h ?_); clear h a; (refine does_alloc hm ?_; clear hm; intro b w hm); intro a h; refine ⟨hm.sub (by repeat' (first | refine slc ?_ | exact sln | refine sld ?_)), ?_⟩
          refine hw2 13 15 (by decide +kernel) ?_ ?_
          · (refine ho_op rfl rfl rfl h ?_); clear h a; (refine does_alloc hm ?_; clear hm; intro b w hm); intro a h; refine ⟨hm.sub (by repeat' (first | refine slc ?_ | exact sln | refine sld ?_)), ?_⟩
            refine hw1 15 (by decide +kernel) ?_
            (refine ho_op rfl rfl rfl h ?_); clear h a; (refine does_alloc hm ?_; clear hm; intro b w hm); intro a h; refine ⟨hm.sub (by repeat' (first | refine slc ?_ | exact sln | refine sld ?_)), ?_⟩
            refine hw1 16 (by decide +kernel) ?_
            (refine ho_opn rfl rfl h ?_); clear h a; ((refine does_storeO 3 hm rfl rfl rfl rfl rfl rfl rfl ?_; clear hm; intro w hm; (simp only [Value.cells, splice, nqq, Nat.reduceAdd, Nat.reduceMul, Int.reduceAdd, Int.reduceToNat] at hm))); intro a h; refine ⟨hm.sub (by repeat' (first | refine slc ?_ | exact sln | refine sld ?_)), ?_⟩
            refine hw1 17 (by decide +kernel) ?_
            (refine ho_opn rfl rfl h ?_); clear h a; ((refine does_storeO 1 hm rfl rfl rfl rfl rfl rfl rfl ?_; clear hm; intro w hm; (simp only [Value.cells, splice, nqq, Nat.reduceAdd, Nat.reduceMul, Int.reduceAdd, Int.reduceToNat] at hm))); intro a h; refine ⟨hm.sub (by repeat' (first | refine slc ?_ | exact sln | refine sld ?_)), ?_⟩
            refine hw1 18 (by decide +kernel) ?_
            (refine ho_opn rfl rfl h ?_); clear h a; ((refine does_storeO 2 hm rfl rfl rfl rfl rfl rfl rfl ?_; clear hm; intro w hm; (simp only [Value.cells, splice, nqq, Nat.reduceAdd, Nat.reduceMul, Int.reduceAdd, Int.reduceToNat] at hm))); intro a h; refine ⟨hm.sub (by repeat' (first | refine slc ?_ | exact sln | refine sld ?_)), ?_⟩
            refine hw1 19 (by decide +kernel) ?_
            (refine ho_opn rfl rfl h ?_); clear h a; ((refine does_storeO 0 hm rfl rfl rfl rfl rfl rfl rfl ?_; clear hm; intro w hm; (simp only [Value.cells, splice, nqq, Nat.reduceAdd, Nat.reduceMul, Int.reduceAdd, Int.reduceToNat] at hm))); intro a h; refine ⟨hm.sub (by repeat' (first | refine slc ?_ | exact sln | refine sld ?_)), ?_⟩
            refine hw0 (by decide +kernel) ?_
            refine ⟨⟨rfl, rfl, _, _, _, _, ?_, h.keep ⟨rfl, rfl, rfl, rfl, rfl, rfl, rfl, rfl, rfl, rfl, rfl, rfl, rfl, trivial⟩⟩⟩; refine hm.perm ?_; (refine perm3 ?_); (refine perm1 ?_); (refine perm1 ?_); exact List.Perm.refl _
          · (refine ho_op rfl rfl rfl h ?_); clear h a; (refine does_alloc hm ?_; clear hm; intro b w hm); intro a h; refine ⟨hm.sub (by repeat' (first | refine slc ?_ | exact sln | refine sld ?_)), ?_⟩
            refine hw1 13 (by decide +kernel) ?_
            (refine ho_op rfl rfl rfl h ?_); clear h a; (refine does_alloc hm ?_; clear hm; intro b w hm); intro a h; refine ⟨hm.sub (by repeat' (first | refine slc ?_ | exact sln | refine sld ?_)), ?_⟩
            refine hw1 16 (by decide +kernel) ?_
            (refine ho_opn rfl rfl h ?_); clear h a; ((refine does_storeO 3 hm rfl rfl rfl rfl rfl rfl rfl ?_; clear hm; intro w hm; (simp only [Value.cells, splice, nqq, Nat.reduceAdd, Nat.reduceMul, Int.reduceAdd, Int.reduceToNat] at hm))); intro a h; refine ⟨hm.sub (by repeat' (first | refine slc ?_ | exact sln | refine sld ?_)), ?_⟩
            refine hw1 17 (by decide +kernel) ?_
            (refine ho_opn rfl rfl h ?_); clear h a; ((refine does_storeO 0 hm rfl rfl rfl rfl rfl rfl rfl ?_; clear hm; intro w hm; (simp only [Value.cells, splice, nqq, Nat.reduceAdd, Nat.reduceMul, Int.reduceAdd, Int.reduceToNat] at hm))); intro a h; refine ⟨hm.sub (by repeat' (first | refine slc ?_ | exact sln | refine sld ?_)), ?_⟩
            refine hw1 18 (by decide +kernel) ?_
            (refine ho_opn rfl rfl h ?_); clear h a; ((refine does_storeO 2 hm rfl rfl rfl rfl rfl rfl rfl ?_; clear hm; intro w hm; (simp only [Value.cells, splice, nqq, Nat.reduceAdd, Nat.reduceMul, Int.reduceAdd, Int.reduceToNat] at hm))); intro a h; refine ⟨hm.sub (by repeat' (first | refine slc ?_ | exact sln | refine sld ?_)), ?_⟩
            refine hw1 19 (by decide +kernel) ?_
            (refine ho_opn rfl rfl h ?_); clear h a; ((refine does_storeO 1 hm rfl rfl rfl rfl rfl rfl rfl ?_; clear hm; intro w hm; (simp only [Value.cells, splice, nqq, Nat.reduceAdd, Nat.reduceMul, Int.reduceAdd, Int.reduceToNat] at hm))); intro a h; refine ⟨hm.sub (by repeat' (first | refine slc ?_ | exact sln | refine sld ?_)), ?_⟩
            refine hw0 (by decide +kernel) ?_
            refine ⟨⟨rfl, rfl, _, _, _, _, ?_, h.keep ⟨rfl, rfl, rfl, rfl, rfl, rfl, rfl, rfl, rfl, rfl, rfl, rfl, rfl, trivial⟩⟩⟩; refine hm.perm ?_; (refine perm3 ?_); (refine List.Perm.cons _ ?_); (refine perm1 ?_); exact List.Perm.refl _
        · (refine ho_op rfl rfl rfl h ?_); clear h a; (refine does_alloc hm ?_; clear hm; intro b w hm); intro a h; refine ⟨hm.sub (by repeat' (first | refine slc ?_ | exact sln | refine sld ?_)), ?_⟩
          refine hw2 13 14 (by decide +kernel) ?_ ?_
          · (refine ho_op rfl rfl rfl h ?_); clear h a; (refine does_alloc hm ?_; clear hm; intro b w hm); intro a h; refine ⟨hm.sub (by repeat' (first | refine slc ?_ | exact sln | refine sld ?_)), ?_⟩
            refine hw1 14 (by decide +kernel) ?_
            (refine ho_op rfl rfl rfl h ?_); clear h a; (refine does_alloc hm ?_; clear hm; intro b w hm); intro a h; refine ⟨hm.sub (by repeat' (first | refine slc ?_ | exact sln | refine sld ?_)), ?_⟩
            refine hw1 16 (by decide +kernel) ?_
            (refine ho_opn rfl rfl h ?_); clear h a; ((refine does_storeO 3 hm rfl rfl rfl rfl rfl rfl rfl ?_; clear hm; intro w hm; (simp only [Value.cells, splice, nqq, Nat.reduceAdd, Nat.reduceMul, Int.reduceAdd, Int.reduceToNat] at hm))); intro a h; refine ⟨hm.sub (by repeat' (first | refine slc ?_ | exact sln | refine sld ?_)), ?_⟩
            refine hw1 17 (by decide +kernel) ?_
            (refine ho_opn rfl rfl h ?_); clear h a; ((refine does_storeO 1 hm rfl rfl rfl rfl rfl rfl rfl ?_; clear hm; intro w hm; (simp only [Value.cells, splice, nqq, Nat.reduceAdd, Nat.reduceMul, Int.reduceAdd, Int.reduceToNat] at hm))); intro a h; refine ⟨hm.sub (by repeat' (first | refine slc ?_ | exact sln | refine sld ?_)), ?_⟩
            refine hw1 18 (by decide +kernel) ?_
            (refine ho_opn rfl rfl h ?_); clear h a; ((refine does_storeO 0 hm rfl rfl rfl rfl rfl rfl rfl ?_; clear hm; intro w hm; (simp only [Value.cells, splice, nqq, Nat.reduceAdd, Nat.reduceMul, Int.reduceAdd, Int.reduceToNat] at hm))); intro a h; refine ⟨hm.sub (by repeat' (first | refine slc ?_ | exact sln | refine sld ?_)), ?_⟩
            refine hw1 19 (by decide +kernel) ?_
            (refine ho_opn rfl rfl h ?_); clear h a; ((refine does_storeO 2 hm rfl rfl rfl rfl rfl rfl rfl ?_; clear hm; intro w hm; (simp only [Value.cells, splice, nqq, Nat.reduceAdd, Nat.reduceMul, Int.reduceAdd, Int.reduceToNat] at hm))); intro a h; refine ⟨hm.sub (by repeat' (first | refine slc ?_ | exact sln | refine sld ?_)), ?_⟩
            refine hw0 (by decide +kernel) ?_
            refine ⟨⟨rfl, rfl, _, _, _, _, ?_, h.keep ⟨rfl, rfl, rfl, rfl, rfl, rfl, rfl, rfl, rfl, rfl, rfl, rfl, rfl, trivial⟩⟩⟩; refine hm.perm ?_; (refine perm3 ?_); (refine perm1 ?_); (refine List.Perm.cons _ ?_); exact List.Perm.refl _
          · (refine ho_op rfl rfl rfl h ?_); clear h a; (refine does_alloc hm ?_; clear hm; intro b w hm); intro a h; refine ⟨hm.sub (by repeat' (first | refine slc ?_ | exact sln | refine sld ?_)), ?_⟩
            refine hw1 13 (by decide +kernel) ?_
            (refine ho_op rfl rfl rfl h ?_); clear h a; (refine does_alloc hm ?_; clear hm; intro b w hm); intro a h; refine ⟨hm.sub (by repeat' (first | refine slc ?_ | exact sln | refine sld ?_)), ?_⟩
            refine hw1 16 (by decide +kernel) ?_
            (refine ho_opn rfl rfl h ?_); clear h a; ((refine does_storeO 3 hm rfl rfl rfl rfl rfl rfl rfl ?_; clear hm; intro w hm; (simp only [Value.cells, splice, nqq, Nat.reduceAdd, Nat.reduceMul, Int.reduceAdd, Int.reduceToNat] at hm))); intro a h; refine ⟨hm.sub (by repeat' (first | refine slc ?_ | exact sln | refine sld ?_)), ?_⟩
            refine hw1 17 (by decide +kernel) ?_
            (refine ho_opn rfl rfl h ?_); clear h a; ((refine does_storeO 0 hm rfl rfl rfl rfl rfl rfl rfl ?_; clear hm; intro w hm; (simp only [Value.cells, splice, nqq, Nat.reduceAdd, Nat.reduceMul, Int.reduceAdd, Int.reduceToNat] at hm))); intro a h; refine ⟨hm.sub (by repeat' (first | refine slc ?_ | exact sln | refine sld ?_)), ?_⟩
            refine hw1 18 (by decide +kernel) ?_
            (refine ho_opn rfl rfl h ?_); clear h a; ((refine does_storeO 1 hm rfl rfl rfl rfl rfl rfl rfl ?_; clear hm; intro w hm; (simp only [Value.cells, splice, nqq, Nat.reduceAdd, Nat.reduceMul, Int.reduceAdd, Int.reduceToNat] at hm))); intro a h; refine ⟨hm.sub (by repeat' (first | refine slc ?_ | exact sln | refine sld ?_)), ?_⟩
            refine hw1 19 (by decide +kernel) ?_
            (refine ho_opn rfl rfl h ?_); clear h a; ((refine does_storeO 2 hm rfl rfl rfl rfl rfl rfl rfl ?_; clear hm; intro w hm; (simp only [Value.cells, splice, nqq, Nat.reduceAdd, Nat.reduceMul, Int.reduceAdd, Int.reduceToNat] at hm))); intro a h; refine ⟨hm.sub (by repeat' (first | refine slc ?_ | exact sln | refine sld ?_)), ?_⟩
            refine hw0 (by decide +kernel) ?_
            refine ⟨⟨rfl, rfl, _, _, _, _, ?_, h.keep ⟨rfl, rfl, rfl, rfl, rfl, rfl, rfl, rfl, rfl, rfl, rfl, rfl, rfl, trivial⟩⟩⟩; refine hm.perm ?_; (refine perm3 ?_); (refine List.Perm.cons _ ?_); (refine List.Perm.cons _ ?_); exact List.Perm.refl _
      · (refine ho_op rfl rfl rfl h ?_); clear h a; (refine does_alloc hm ?_; clear hm; intro b w hm); intro a h; refine ⟨hm.sub (by repeat' (first | refine slc ?_ | exact sln | refine sld ?_)), ?_⟩
        refine hw3 12 14 15 (by decide +kernel) ?_ ?_ ?_
        · (refine ho_op rfl rfl rfl h ?_); clear h a; (refine does_alloc hm ?_; clear hm; intro b w hm); intro a h; refine ⟨hm.sub (by repeat' (first | refine slc ?_ | exact sln | refine sld ?_)), ?_⟩
          refine hw2 14 15 (by decide +kernel) ?_ ?_
          · (refine ho_op rfl rfl rfl h ?_); clear h a; (refine does_alloc hm ?_; clear hm; intro b w hm); intro a h; refine ⟨hm.sub (by repeat' (first | refine slc ?_ | exact sln | refine sld ?_)), ?_⟩
            refine hw1 15 (by decide +kernel) ?_
            (refine ho_op rfl rfl rfl h ?_); clear h a; (refine does_alloc hm ?_; clear hm; intro b w hm); intro a h; refine ⟨hm.sub (by repeat' (first | refine slc ?_ | exact sln | refine sld ?_)), ?_⟩
            refine hw1 16 (by decide +kernel) ?_
            (refine ho_opn rfl rfl h ?_); clear h a; ((refine does_storeO 2 hm rfl rfl rfl rfl rfl rfl rfl ?_; clear hm; intro w hm; (simp only [Value.cells, splice, nqq, Nat.reduceAdd, Nat.reduceMul, Int.reduceAdd, Int.reduceToNat] at hm))); intro a h; refine ⟨hm.sub (by repeat' (first | refine slc ?_ | exact sln | refine sld ?_)), ?_⟩
            refine hw1 17 (by decide +kernel) ?_
            (refine ho_opn rfl rfl h ?_); clear h a; ((refine does_storeO 3 hm rfl rfl rfl rfl rfl rfl rfl ?_; clear hm; intro w hm; (simp only [Value.cells, splice, nqq, Nat.reduceAdd, Nat.reduceMul, Int.reduceAdd, Int.reduceToNat] at hm))); intro a h; refine ⟨hm.sub (by repeat' (first | refine slc ?_ | exact sln | refine sld ?_)), ?_⟩
            refine hw1 18 (by decide +kernel) ?_
            (refine ho_opn rfl rfl h ?_); clear h a; ((refine does_storeO 1 hm rfl rfl rfl rfl rfl rfl rfl ?_; clear hm; intro w hm; (simp only [Value.cells, splice, nqq, Nat.reduceAdd, Nat.reduceMul, Int.reduceAdd, Int.reduceToNat] at hm))); intro a h; refine ⟨hm.sub (by repeat' (first | refine slc ?_ | exact sln | refine sld ?_)), ?_⟩
            refine hw1 19 (by decide +kernel) ?_
            (refine ho_opn rfl rfl h ?_); clear h a; ((refine does_storeO 0 hm rfl rfl rfl rfl rfl rfl rfl ?_; clear hm; intro w hm; (simp only [Value.cells, splice, nqq, Nat.reduceAdd, Nat.reduceMul, Int.reduceAdd, Int.reduceToNat] at hm))); intro a h; refine ⟨hm.sub (by repeat' (first | refine slc ?_ | exact sln | refine sld ?_)), ?_⟩
            refine hw0 (by decide +kernel) ?_
            refine ⟨⟨rfl, rfl, _, _, _, _, ?_, h.keep ⟨rfl, rfl, rfl, rfl, rfl, rfl, rfl, rfl, rfl, rfl, rfl, rfl, rfl, trivial⟩⟩⟩; refine hm.perm ?_; (refine perm2 ?_); (refine perm2 ?_); (refine perm1 ?_); exact List.Perm.refl _
          · (refine ho_op rfl rfl rfl h ?_); clear h a; (refine does_alloc hm ?_; clear hm; intro b w hm); intro a h; refine ⟨hm.sub (by repeat' (first | refine slc ?_ | exact sln | refine sld ?_)), ?_⟩
            refine hw1 14 (by decide +kernel) ?_
            (refine ho_op rfl rfl rfl h ?_); clear h a; (refine does_alloc hm ?_; clear hm; intro b w hm); intro a h; refine ⟨hm.sub (by repeat' (first | refine slc ?_ | exact sln | refine sld ?_)), ?_⟩
            refine hw1 16 (by decide +kernel) ?_
            (refine ho_opn rfl rfl h ?_); clear h a; ((refine does_storeO 2 hm rfl rfl rfl rfl rfl rfl rfl ?_; clear hm; intro w hm; (simp only [Value.cells, splice, nqq, Nat.reduceAdd, Nat.reduceMul, Int.reduceAdd, Int.reduceToNat] at hm))); intro a h; refine ⟨hm.sub (by repeat' (first | refine slc ?_ | exact sln | refine sld ?_)), ?_⟩
            refine hw1 17 (by decide +kernel) ?_
            (refine ho_opn rfl rfl h ?_); clear h a; ((refine does_storeO 3 hm rfl rfl rfl rfl rfl rfl rfl ?_; clear hm; intro w hm; (simp only [Value.cells, splice, nqq, Nat.reduceAdd, Nat.reduceMul, Int.reduceAdd, Int.reduceToNat] at hm))); intro a h; refine ⟨hm.sub (by repeat' (first | refine slc ?_ | exact sln | refine sld ?_)), ?_⟩
            refine hw1 18 (by decide +kernel) ?_
            (refine ho_opn rfl rfl h ?_); clear h a; ((refine does_storeO 0 hm rfl rfl rfl rfl rfl rfl rfl ?_; clear hm; intro w hm; (simp only [Value.cells, splice, nqq, Nat.reduceAdd, Nat.reduceMul, Int.reduceAdd, Int.reduceToNat] at hm))); intro a h; refine ⟨hm.sub (by repeat' (first | refine slc ?_ | exact sln | refine sld ?_)), ?_⟩
            refine hw1 19 (by decide +kernel) ?_
            (refine ho_opn rfl rfl h ?_); clear h a; ((refine does_storeO 1 hm rfl rfl rfl rfl rfl rfl rfl ?_; clear hm; intro w hm; (simp only [Value.cells, splice, nqq, Nat.reduceAdd, Nat.reduceMul, Int.reduceAdd, Int.reduceToNat] at hm))); intro a h; refine ⟨hm.sub (by repeat' (first | refine slc ?_ | exact sln | refine sld ?_)), ?_⟩
            refine hw0 (by decide +kernel) ?_
            refine ⟨⟨rfl, rfl, _, _, _, _, ?_, h.keep ⟨rfl, rfl, rfl, rfl, rfl, rfl, rfl, rfl, rfl, rfl, rfl, rfl, rfl, trivial⟩⟩⟩; refine hm.perm ?_; (refine perm2 ?_); (refine perm2 ?_); (refine List.Perm.cons _ ?_); exact List.Perm.refl _
        · (refine ho_op rfl rfl rfl h ?_); clear h a; (refine does_alloc hm ?_; clear hm; intro b w hm); intro a h; refine ⟨hm.sub (by repeat' (first | refine slc ?_ | exact sln | refine sld ?_)), ?_⟩
          refine hw2 12 15 (by decide +kernel) ?_ ?_
          · (refine ho_op rfl rfl rfl h ?_); clear h a; (refine does_alloc hm ?_; clear hm; intro b w hm); intro a h; refine ⟨hm.sub (by repeat' (first | refine slc ?_ | exact sln | refine sld ?_)), ?_⟩
            refine hw1 15 (by decide +kernel) ?_
            (refine ho_op rfl rfl rfl h ?_); clear h a; (refine does_alloc hm ?_; clear hm; intro b w hm); intro a h; refine ⟨hm.sub (by repeat' (first | refine slc ?_ | exact sln | refine sld ?_)), ?_⟩
            refine hw1 16 (by decide +kernel) ?_
            (refine ho_opn rfl rfl h ?_); clear h a; ((refine does_storeO 1 hm rfl rfl rfl rfl rfl rfl rfl ?_; clear hm; intro w hm; (simp only [Value.cells, splice, nqq, Nat.reduceAdd, Nat.reduceMul, Int.reduceAdd, Int.reduceToNat] at hm))); intro a h; refine ⟨hm.sub (by repeat' (first | refine slc ?_ | exact sln | refine sld ?_)), ?_⟩
            refine hw1 17 (by decide +kernel) ?_
            (refine ho_opn rfl rfl h ?_); clear h a; ((refine does_storeO 3 hm rfl rfl rfl rfl rfl rfl rfl ?_; clear hm; intro w hm; (simp only [Value.cells, splice, nqq, Nat.reduceAdd, Nat.reduceMul, Int.reduceAdd, Int.reduceToNat] at hm))); intro a h; refine ⟨hm.sub (by repeat' (first | refine slc ?_ | exact sln | refine sld ?_)), ?_⟩
            refine hw1 18 (by decide +kernel) ?_
            (refine ho_opn rfl rfl h ?_); clear h a; ((refine does_storeO 2 hm rfl rfl rfl rfl rfl rfl rfl ?_; clear hm; intro w hm; (simp only [Value.cells, splice, nqq, Nat.reduceAdd, Nat.reduceMul, Int.reduceAdd, Int.reduceToNat] at hm))); intro a h; refine ⟨hm.sub (by repeat' (first | refine slc ?_ | exact sln | refine sld ?_)), ?_⟩
            refine hw1 19 (by decide +kernel) ?_
            (refine ho_opn rfl rfl h ?_); clear h a; ((refine does_storeO 0 hm rfl rfl rfl rfl rfl rfl rfl ?_; clear hm; intro w hm; (simp only [Value.cells, splice, nqq, Nat.reduceAdd, Nat.reduceMul, Int.reduceAdd, Int.reduceToNat] at hm))); intro a h; refine ⟨hm.sub (by repeat' (first | refine slc ?_ | exact sln | refine sld ?_)), ?_⟩
            refine hw0 (by decide +kernel) ?_
            refine ⟨⟨rfl, rfl, _, _, _, _, ?_, h.keep ⟨rfl, rfl, rfl, rfl, rfl, rfl, rfl, rfl, rfl, rfl, rfl, rfl, rfl, trivial⟩⟩⟩; refine hm.perm ?_; (refine perm1 ?_); (refine perm2 ?_); (refine perm1 ?_); exact List.Perm.refl _
          · (refine ho_op rfl rfl rfl h ?_); clear h a; (refine does_alloc hm ?_; clear hm; intro b w hm); intro a h; refine ⟨hm.sub (by repeat' (first | refine slc ?_ | exact sln | refine sld ?_)), ?_⟩
            refine hw1 12 (by decide +kernel) ?_
            (refine ho_op rfl rfl rfl h ?_); clear h a; (refine does_alloc hm ?_; clear hm; intro b w hm); intro a h; refine ⟨hm.sub (by repeat' (first | refine slc ?_ | exact sln | refine sld ?_)), ?_⟩
            refine hw1 16 (by decide +kernel) ?_
            (refine ho_opn rfl rfl h ?_); clear h a; ((refine does_storeO 0 hm rfl rfl rfl rfl rfl rfl rfl ?_; clear hm; intro w hm; (simp only [Value.cells, splice, nqq, Nat.reduceAdd, Nat.reduceMul, Int.reduceAdd, Int.reduceToNat] at hm))); intro a h; refine ⟨hm.sub (by repeat' (first | refine slc ?_ | exact sln | refine sld ?_)), ?_⟩
            refine hw1 17 (by decide +kernel) ?_
            (refine ho_opn rfl rfl h ?_); clear h a; ((refine does_storeO 3 hm rfl rfl rfl rfl rfl rfl rfl ?_; clear hm; intro w hm; (simp only [Value.cells, splice, nqq, Nat.reduceAdd, Nat.reduceMul, Int.reduceAdd, Int.reduceToNat] at hm))); intro a h; refine ⟨hm.sub (by repeat' (first | refine slc ?_ | exact sln | refine sld ?_)), ?_⟩
            refine hw1 18 (by decide +kernel) ?_
            (refine ho_opn rfl rfl h ?_); clear h a; ((refine does_storeO 2 hm rfl rfl rfl rfl rfl rfl rfl ?_; clear hm; intro w hm; (simp only [Value.cells, splice, nqq, Nat.reduceAdd, Nat.reduceMul, Int.reduceAdd, Int.reduceToNat] at hm))); intro a h; refine ⟨hm.sub (by repeat' (first | refine slc ?_ | exact sln | refine sld ?_)), ?_⟩
            refine hw1 19 (by decide +kernel) ?_
            (refine ho_opn rfl rfl h ?_); clear h a; ((refine does_storeO 1 hm rfl rfl rfl rfl rfl rfl rfl ?_; clear hm; intro w hm; (simp only [Value.cells, splice, nqq, Nat.reduceAdd, Nat.reduceMul, Int.reduceAdd, Int.reduceToNat] at hm))); intro a h; refine ⟨hm.sub (by repeat' (first | refine slc ?_ | exact sln | refine sld ?_)), ?_⟩
            refine hw0 (by decide +kernel) ?_
            refine ⟨⟨rfl, rfl, _, _, _, _, ?_, h.keep ⟨rfl, rfl, rfl, rfl, rfl, rfl, rfl, rfl, rfl, rfl, rfl, rfl, rfl, trivial⟩⟩⟩; refine hm.perm ?_; (refine List.Perm.cons _ ?_); (refine perm2 ?_); (refine perm1 ?_); exact List.Perm.refl _
        · (refine ho_op rfl rfl rfl h ?_); clear h a; (refine does_alloc hm ?_; clear hm; intro b w hm); intro a h; refine ⟨hm.sub (by repeat' (first | refine slc ?_ | exact sln | refine sld ?_)), ?_⟩
          refine hw2 12 14 (by decide +kernel) ?_ ?_
          · (refine ho_op rfl rfl rfl h ?_); clear h a; (refine does_alloc hm ?_; clear hm; intro b w hm); intro a h; refine ⟨hm.sub (by repeat' (first | refine slc ?_ | exact sln | refine sld ?_)), ?_⟩
            refine hw1 14 (by decide +kernel) ?_
            (refine ho_op rfl rfl rfl h ?_); clear h a; (refine does_alloc hm ?_; clear hm; intro b w hm); intro a h; refine ⟨hm.sub (by repeat' (first | refine slc ?_ | exact sln | refine sld ?_)), ?_⟩
            refine hw1 16 (by decide +kernel) ?_
            (refine ho_opn rfl rfl h ?_); clear h a; ((refine does_storeO 1 hm rfl rfl rfl rfl rfl rfl rfl ?_; clear hm; intro w hm; (simp only [Value.cells, splice, nqq, Nat.reduceAdd, Nat.reduceMul, Int.reduceAdd, Int.reduceToNat] at hm))); intro a h; refine ⟨hm.sub (by repeat' (first | refine slc ?_ | exact sln | refine sld ?_)), ?_⟩
            refine hw1 17 (by decide +kernel) ?_
            (refine ho_opn rfl rfl h ?_); clear h a; ((refine does_storeO 3 hm rfl rfl rfl rfl rfl rfl rfl ?_; clear hm; intro w hm; (simp only [Value.cells, splice, nqq, Nat.reduceAdd, Nat.reduceMul, Int.reduceAdd, Int.reduceToNat] at hm))); intro a h; refine ⟨hm.sub (by repeat' (first | refine slc ?_ | exact sln | refine sld ?_)), ?_⟩
            refine hw1 18 (by decide +kernel) ?_
            (refine ho_opn rfl rfl h ?_); clear h a; ((refine does_storeO 0 hm rfl rfl rfl rfl rfl rfl rfl ?_; clear hm; intro w hm; (simp only [Value.cells, splice, nqq, Nat.reduceAdd, Nat.reduceMul, Int.reduceAdd, Int.reduceToNat] at hm))); intro a h; refine ⟨hm.sub (by repeat' (first | refine slc ?_ | exact sln | refine sld ?_)), ?_⟩
            refine hw1 19 (by decide +kernel) ?_
            (refine ho_opn rfl rfl h ?_); clear h a; ((refine does_storeO 2 hm rfl rfl rfl rfl rfl rfl rfl ?_; clear hm; intro w hm; (simp only [Value.cells, splice, nqq, Nat.reduceAdd, Nat.reduceMul, Int.reduceAdd, Int.reduceToNat] at hm))); intro a h; refine ⟨hm.sub (by repeat' (first | refine slc ?_ | exact sln | refine sld ?_)), ?_⟩
            refine hw0 (by decide +kernel) ?_
            refine ⟨⟨rfl, rfl, _, _, _, _, ?_, h.keep ⟨rfl, rfl, rfl, rfl, rfl, rfl, rfl, rfl, rfl, rfl, rfl, rfl, rfl, trivial⟩⟩⟩; refine hm.perm ?_; (refine perm1 ?_); (refine perm2 ?_); (refine List.Perm.cons _ ?_); exact List.Perm.refl _
          · (refine ho_op rfl rfl rfl h ?_); clear h a; (refine does_alloc hm ?_; clear hm; intro b w hm); intro a h; refine ⟨hm.sub (by repeat' (first | refine slc ?_ | exact sln | refine sld ?_)), ?_⟩
            refine hw1 12 (by decide +kernel) ?_
            (refine ho_op rfl rfl rfl h ?_); clear h a; (refine does_alloc hm ?_; clear hm; intro b w hm); intro a h; refine ⟨hm.sub (by repeat' (first | refine slc ?_ | exact sln | refine sld ?_)), ?_⟩
            refine hw1 16 (by decide +kernel) ?_
            (refine ho_opn rfl rfl h ?_); clear h a; ((refine does_storeO 0 hm rfl rfl rfl rfl rfl rfl rfl ?_; clear hm; intro w hm; (simp only [Value.cells, splice, nqq, Nat.reduceAdd, Nat.reduceMul, Int.reduceAdd, Int.reduceToNat] at hm))); intro a h; refine ⟨hm.sub (by repeat' (first | refine slc ?_ | exact sln | refine sld ?_)), ?_⟩
            refine hw1 17 (by decide +kernel) ?_
            (refine ho_opn rfl rfl h ?_); clear h a; ((refine does_storeO 3 hm rfl rfl rfl rfl rfl rfl rfl ?_; clear hm; intro w hm; (simp only [Value.cells, splice, nqq, Nat.reduceAdd, Nat.reduceMul, Int.reduceAdd, Int.reduceToNat] at hm))); intro a h; refine ⟨hm.sub (by repeat' (first | refine slc ?_ | exact sln | refine sld ?_)), ?_⟩
            refine hw1 18 (by decide +kernel) ?_
            (refine ho_opn rfl rfl h ?_); clear h a; ((refine does_storeO 1 hm rfl rfl rfl rfl rfl rfl rfl ?_; clear hm; intro w hm; (simp only [Value.cells, splice, nqq, Nat.reduceAdd, Nat.reduceMul, Int.reduceAdd, Int.reduceToNat] at hm))); intro a h; refine ⟨hm.sub (by repeat' (first | refine slc ?_ | exact sln | refine sld ?_)), ?_⟩
            refine hw1 19 (by decide +kernel) ?_
            (refine ho_opn rfl rfl h ?_); clear h a; ((refine does_storeO 2 hm rfl rfl rfl rfl rfl rfl rfl ?_; clear hm; intro w hm; (simp only [Value.cells, splice, nqq, Nat.reduceAdd, Nat.reduceMul, Int.reduceAdd, Int.reduceToNat] at hm))); intro a h; refine ⟨hm.sub (by repeat' (first | refine slc ?_ | exact sln | refine sld ?_)), ?_⟩
            refine hw0 (by decide +kernel) ?_
            refine ⟨⟨rfl, rfl, _, _, _, _, ?_, h.keep ⟨rfl, rfl, rfl, rfl, rfl, rfl, rfl, rfl, rfl, rfl, rfl, rfl, rfl, trivial⟩⟩⟩; refine hm.perm ?_; (refine List.Perm.cons _ ?_); (refine perm2 ?_); (refine List.Perm.cons _ ?_); exact List.Perm.refl _
      · (refine ho_op rfl rfl rfl h ?_); clear h a; (refine does_alloc hm ?_; clear hm; intro b w hm); intro a h; refine ⟨hm.sub (by repeat' (first | refine slc ?_ | exact sln | refine sld ?_)), ?_⟩
        refine hw3 12 13 15 (by decide +kernel) ?_ ?_ ?_
        · (refine ho_op rfl rfl rfl h ?_); clear h a; (refine does_alloc hm ?_; clear hm; intro b w hm); intro a h; refine ⟨hm.sub (by repeat' (first | refine slc ?_ | exact sln | refine sld ?_)), ?_⟩
          refine hw2 13 15 (by decide +kernel) ?_ ?_
          · (refine ho_op rfl rfl rfl h ?_); clear h a; (refine does_alloc hm ?_; clear hm; intro b w hm); intro a h; refine ⟨hm.sub (by repeat' (first | refine slc ?_ | exact sln | refine sld ?_)), ?_⟩
            refine hw1 15 (by decide +kernel) ?_
            (refine ho_op rfl rfl rfl h ?_); clear h a; (refine does_alloc hm ?_; clear hm; intro b w hm); intro a h; refine ⟨hm.sub (by repeat' (first | refine slc ?_ | exact sln | refine sld ?_)), ?_⟩
            refine hw1 16 (by decide +kernel) ?_
            (refine ho_opn rfl rfl h ?_); clear h a; ((refine does_storeO 2 hm rfl rfl rfl rfl rfl rfl rfl ?_; clear hm; intro w hm; (simp only [Value.cells, splice, nqq, Nat.reduceAdd, Nat.reduceMul, Int.reduceAdd, Int.reduceToNat] at hm))); intro a h; refine ⟨hm.sub (by repeat' (first | refine slc ?_ | exact sln | refine sld ?_)), ?_⟩
            refine hw1 17 (by decide +kernel) ?_
            (refine ho_opn rfl rfl h ?_); clear h a; ((refine does_storeO 1 hm rfl rfl rfl rfl rfl rfl rfl ?_; clear hm; intro w hm; (simp only [Value.cells, splice, nqq, Nat.reduceAdd, Nat.reduceMul, Int.reduceAdd, Int.reduceToNat] at hm))); intro a h; refine ⟨hm.sub (by repeat' (first | refine slc ?_ | exact sln | refine sld ?_)), ?_⟩
            refine hw1 18 (by decide +kernel) ?_
            (refine ho_opn rfl rfl h ?_); clear h a; ((refine does_storeO 3 hm rfl rfl rfl rfl rfl rfl rfl ?_; clear hm; intro w hm; (simp only [Value.cells, splice, nqq, Nat.reduceAdd, Nat.reduceMul, Int.reduceAdd, Int.reduceToNat] at hm))); intro a h; refine ⟨hm.sub (by repeat' (first | refine slc ?_ | exact sln | refine sld ?_)), ?_⟩
            refine hw1 19 (by decide +kernel) ?_
            (refine ho_opn rfl rfl h ?_); clear h a; ((refine does_storeO 0 hm rfl rfl rfl rfl rfl rfl rfl ?_; clear hm; intro w hm; (simp only [Value.cells, splice, nqq, Nat.reduceAdd, Nat.reduceMul, Int.reduceAdd, Int.reduceToNat] at hm))); intro a h; refine ⟨hm.sub (by repeat' (first | refine slc ?_ | exact sln | refine sld ?_)), ?_⟩
            refine hw0 (by decide +kernel) ?_
            refine ⟨⟨rfl, rfl, _, _, _, _, ?_, h.keep ⟨rfl, rfl, rfl, rfl, rfl, rfl, rfl, rfl, rfl, rfl, rfl, rfl, rfl, trivial⟩⟩⟩; refine hm.perm ?_; (refine perm2 ?_); (refine perm1 ?_); (refine perm1 ?_); exact List.Perm.refl _
          · (refine ho_op rfl rfl rfl h ?_); clear h a; (refine does_alloc hm ?_; clear hm; intro b w hm); intro a h; refine ⟨hm.sub (by repeat' (first | refine slc ?_ | exact sln | refine sld ?_)), ?_⟩
            refine hw1 13 (by decide +kernel) ?_
            (refine ho_op rfl rfl rfl h ?_); clear h a; (refine does_alloc hm ?_; clear hm; intro b w hm); intro a h; refine ⟨hm.sub (by repeat' (first | refine slc ?_ | exact sln | refine sld ?_)), ?_⟩
            refine hw1 16 (by decide +kernel) ?_
            (refine ho_opn rfl rfl h ?_); clear h a; ((refine does_storeO 2 hm rfl rfl rfl rfl rfl rfl rfl ?_; clear hm; intro w hm; (simp only [Value.cells, splice, nqq, Nat.reduceAdd, Nat.reduceMul, Int.reduceAdd, Int.reduceToNat] at hm))); intro a h; refine ⟨hm.sub (by repeat' (first | refine slc ?_ | exact sln | refine sld ?_)), ?_⟩
            refine hw1 17 (by decide +kernel) ?_
            (refine ho_opn rfl rfl h ?_); clear h a; ((refine does_storeO 0 hm rfl rfl rfl rfl rfl rfl rfl ?_; clear hm; intro w hm; (simp only [Value.cells, splice, nqq, Nat.reduceAdd, Nat.reduceMul, Int.reduceAdd, Int.reduceToNat] at hm))); intro a h; refine ⟨hm.sub (by repeat' (first | refine slc ?_ | exact sln | refine sld ?_)), ?_⟩
            refine hw1 18 (by decide +kernel) ?_
            (refine ho_opn rfl rfl h ?_); clear h a; ((refine does_storeO 3 hm rfl rfl rfl rfl rfl rfl rfl ?_; clear hm; intro w hm; (simp only [Value.cells, splice, nqq, Nat.reduceAdd, Nat.reduceMul, Int.reduceAdd, Int.reduceToNat] at hm))); intro a h; refine ⟨hm.sub (by repeat' (first | refine slc ?_ | exact sln | refine sld ?_)), ?_⟩
            refine hw1 19 (by decide +kernel) ?_
            (refine ho_opn rfl rfl h ?_); clear h a; ((refine does_storeO 1 hm rfl rfl rfl rfl rfl rfl rfl ?_; clear hm; intro w hm; (simp only [Value.cells, splice, nqq, Nat.reduceAdd, Nat.reduceMul, Int.reduceAdd, Int.reduceToNat] at hm))); intro a h; refine ⟨hm.sub (by repeat' (first | refine slc ?_ | exact sln | refine sld ?_)), ?_⟩
            refine hw0 (by decide +kernel) ?_
            refine ⟨⟨rfl, rfl, _, _, _, _, ?_, h.keep ⟨rfl, rfl, rfl, rfl, rfl, rfl, rfl, rfl, rfl, rfl, rfl, rfl, rfl, trivial⟩⟩⟩; refine hm.perm ?_; (refine perm2 ?_); (refine List.Perm.cons _ ?_); (refine perm1 ?_); exact List.Perm.refl _
        · (refine ho_op rfl rfl rfl h ?_); clear h a; (refine does_alloc hm ?_; clear hm; intro b w hm); intro a h; refine ⟨hm.sub (by repeat' (first | refine slc ?_ | exact sln | refine sld ?_)), ?_⟩
          refine hw2 12 15 (by decide +kernel) ?_ ?_
          · (refine ho_op rfl rfl rfl h ?_); clear h a; (refine does_alloc hm ?_; clear hm; intro b w hm); intro a h; refine ⟨hm.sub (by repeat' (first | refine slc ?_ | exact sln | refine sld ?_)), ?_⟩
            refine hw1 15 (by decide +kernel) ?_
            (refine ho_op rfl rfl rfl h ?_); clear h a; (refine does_alloc hm ?_; clear hm; intro b w hm); intro a h; refine ⟨hm.sub (by repeat' (first | refine slc ?_ | exact sln | refine sld ?_)), ?_⟩
            refine hw1 16 (by decide +kernel) ?_
            (refine ho_opn rfl rfl h ?_); clear h a; ((refine does_storeO 1 hm rfl rfl rfl rfl rfl rfl rfl ?_; clear hm; intro w hm; (simp only [Value.cells, splice, nqq, Nat.reduceAdd, Nat.reduceMul, Int.reduceAdd, Int.reduceToNat] at hm))); intro a h; refine ⟨hm.sub (by repeat' (first | refine slc ?_ | exact sln | refine sld ?_)), ?_⟩
            refine hw1 17 (by decide +kernel) ?_
            (refine ho_opn rfl rfl h ?_); clear h a; ((refine does_storeO 2 hm rfl rfl rfl rfl rfl rfl rfl ?_; clear hm; intro w hm; (simp only [Value.cells, splice, nqq, Nat.reduceAdd, Nat.reduceMul, Int.reduceAdd, Int.reduceToNat] at hm))); intro a h; refine ⟨hm.sub (by repeat' (first | refine slc ?_ | exact sln | refine sld ?_)), ?_⟩
            refine hw1 18 (by decide +kernel) ?_
            (refine ho_opn rfl rfl h ?_); clear h a; ((refine does_storeO 3 hm rfl rfl rfl rfl rfl rfl rfl ?_; clear hm; intro w hm; (simp only [Value.cells, splice, nqq, Nat.reduceAdd, Nat.reduceMul, Int.reduceAdd, Int.reduceToNat] at hm))); intro a h; refine ⟨hm.sub (by repeat' (first | refine slc ?_ | exact sln | refine sld ?_)), ?_⟩
            refine hw1 19 (by decide +kernel) ?_
            (refine ho_opn rfl rfl h ?_); clear h a; ((refine does_storeO 0 hm rfl rfl rfl rfl rfl rfl rfl ?_; clear hm; intro w hm; (simp only [Value.cells, splice, nqq, Nat.reduceAdd, Nat.reduceMul, Int.reduceAdd, Int.reduceToNat] at hm))); intro a h; refine ⟨hm.sub (by repeat' (first | refine slc ?_ | exact sln | refine sld ?_)), ?_⟩
            refine hw0 (by decide +kernel) ?_
            refine ⟨⟨rfl, rfl, _, _, _, _, ?_, h.keep ⟨rfl, rfl, rfl, rfl, rfl, rfl, rfl, rfl, rfl, rfl, rfl, rfl, rfl, trivial⟩⟩⟩; refine hm.perm ?_; (refine perm1 ?_); (refine perm1 ?_); (refine perm1 ?_); exact List.Perm.refl _
          · (refine ho_op rfl rfl rfl h ?_); clear h a; (refine does_alloc hm ?_; clear hm; intro b w hm); intro a h; refine ⟨hm.sub (by repeat' (first | refine slc ?_ | exact sln | refine sld ?_)), ?_⟩
            refine hw1 12 (by decide +kernel) ?_
            (refine ho_op rfl rfl rfl h ?_); clear h a; (refine does_alloc hm ?_; clear hm; intro b w hm); intro a h; refine ⟨hm.sub (by repeat' (first | refine slc ?_ | exact sln | refine sld ?_)), ?_⟩
            refine hw1 16 (by decide +kernel) ?_
            (refine ho_opn rfl rfl h ?_); clear h a; ((refine does_storeO 0 hm rfl rfl rfl rfl rfl rfl rfl ?_; clear hm; intro w hm; (simp only [Value.cells, splice, nqq, Nat.reduceAdd, Nat.reduceMul, Int.reduceAdd, Int.reduceToNat] at hm))); intro a h; refine ⟨hm.sub (by repeat' (first | refine slc ?_ | exact sln | refine sld ?_)), ?_⟩
            refine hw1 17 (by decide +kernel) ?_
            (refine ho_opn rfl rfl h ?_); clear h a; ((refine does_storeO 2 hm rfl rfl rfl rfl rfl rfl rfl ?_; clear hm; intro w hm; (simp only [Value.cells, splice, nqq, Nat.reduceAdd, Nat.reduceMul, Int.reduceAdd, Int.reduceToNat] at hm))); intro a h; refine ⟨hm.sub (by repeat' (first | refine slc ?_ | exact sln | refine sld ?_)), ?_⟩
            refine hw1 18 (by decide +kernel) ?_
            (refine ho_opn rfl rfl h ?_); clear h a; ((refine does_storeO 3 hm rfl rfl rfl rfl rfl rfl rfl ?_; clear hm; intro w hm; (simp only [Value.cells, splice, nqq, Nat.reduceAdd, Nat.reduceMul, Int.reduceAdd, Int.reduceToNat] at hm))); intro a h; refine ⟨hm.sub (by repeat' (first | refine slc ?_ | exact sln | refine sld ?_)), ?_⟩
            refine hw1 19 (by decide +kernel) ?_
            (refine ho_opn rfl rfl h ?_); clear h a; ((refine does_storeO 1 hm rfl rfl rfl rfl rfl rfl rfl ?_; clear hm; intro w hm; (simp only [Value.cells, splice, nqq, Nat.reduceAdd, Nat.reduceMul, Int.reduceAdd, Int.reduceToNat] at hm))); intro a h; refine ⟨hm.sub (by repeat' (first | refine slc ?_ | exact sln | refine sld ?_)), ?_⟩
            refine hw0 (by decide +kernel) ?_
            refine ⟨⟨rfl, rfl, _, _, _, _, ?_, h.keep ⟨rfl, rfl, rfl, rfl, rfl, rfl, rfl, rfl, rfl, rfl, rfl, rfl, rfl, trivial⟩⟩⟩; refine hm.perm ?_; (refine List.Perm.cons _ ?_); (refine perm1 ?_); (refine perm1 ?_); exact List.Perm.refl _
        · (refine ho_op rfl rfl rfl h ?_); clear h a; (refine does_alloc hm ?_; clear hm; intro b w hm); intro a h; refine ⟨hm.sub (by repeat' (first | refine slc ?_ | exact sln | refine sld ?_)), ?_⟩
          refine hw2 12 13 (by decide +kernel) ?_ ?_
          · (refine ho_op rfl rfl rfl h ?_); clear h a; (refine does_alloc hm ?_; clear hm; intro b w hm); intro a h; refine ⟨hm.sub (by repeat' (first | refine slc ?_ | exact sln | refine sld ?_)), ?_⟩
            refine hw1 13 (by decide +kernel) ?_
            (refine ho_op rfl rfl rfl h ?_); clear h a; (refine does_alloc hm ?_; clear hm; intro b w hm); intro a h; refine ⟨hm.sub (by repeat' (first | refine slc ?_ | exact sln | refine sld ?_)), ?_⟩
            refine hw1 16 (by decide +kernel) ?_
            (refine ho_opn rfl rfl h ?_); clear h a; ((refine does_storeO 1 hm rfl rfl rfl rfl rfl rfl rfl ?_; clear hm; intro w hm; (simp only [Value.cells, splice, nqq, Nat.reduceAdd, Nat.reduceMul, Int.reduceAdd, Int.reduceToNat] at hm))); intro a h; refine ⟨hm.sub (by repeat' (first | refine slc ?_ | exact sln | refine sld ?_)), ?_⟩
            refine hw1 17 (by decide +kernel) ?_
            (refine ho_opn rfl rfl h ?_); clear h a; ((refine does_storeO 0 hm rfl rfl rfl rfl rfl rfl rfl ?_; clear hm; intro w hm; (simp only [Value.cells, splice, nqq, Nat.reduceAdd, Nat.reduceMul, Int.reduceAdd, Int.reduceToNat] at hm))); intro a h; refine ⟨hm.sub (by repeat' (first | refine slc ?_ | exact sln | refine sld ?_)), ?_⟩
            refine hw1 18 (by decide +kernel) ?_
            (refine ho_opn rfl rfl h ?_); clear h a; ((refine does_storeO 3 hm rfl rfl rfl rfl rfl rfl rfl ?_; clear hm; intro w hm; (simp only [Value.cells, splice, nqq, Nat.reduceAdd, Nat.reduceMul, Int.reduceAdd, Int.reduceToNat] at hm))); intro a h; refine ⟨hm.sub (by repeat' (first | refine slc ?_ | exact sln | refine sld ?_)), ?_⟩
            refine hw1 19 (by decide +kernel) ?_
            (refine ho_opn rfl rfl h ?_); clear h a; ((refine does_storeO 2 hm rfl rfl rfl rfl rfl rfl rfl ?_; clear hm; intro w hm; (simp only [Value.cells, splice, nqq, Nat.reduceAdd, Nat.reduceMul, Int.reduceAdd, Int.reduceToNat] at hm))); intro a h; refine ⟨hm.sub (by repeat' (first | refine slc ?_ | exact sln | refine sld ?_)), ?_⟩
            refine hw0 (by decide +kernel) ?_
            refine ⟨⟨rfl, rfl, _, _, _, _, ?_, h.keep ⟨rfl, rfl, rfl, rfl, rfl, rfl, rfl, rfl, rfl, rfl, rfl, rfl, rfl, trivial⟩⟩⟩; refine hm.perm ?_; (refine perm1 ?_); (refine List.Perm.cons _ ?_); (refine perm1 ?_); exact List.Perm.refl _
          · (refine ho_op rfl rfl rfl h ?_); clear h a; (refine does_alloc hm ?_; clear hm; intro b w hm); intro a h; refine ⟨hm.sub (by repeat' (first | refine slc ?_ | exact sln | refine sld ?_)), ?_⟩
            refine hw1 12 (by decide +kernel) ?_
            (refine ho_op rfl rfl rfl h ?_); clear h a; (refine does_alloc hm ?_; clear hm; intro b w hm); intro a h; refine ⟨hm.sub (by repeat' (first | refine slc ?_ | exact sln | refine sld ?_)), ?_⟩
            refine hw1 16 (by decide +kernel) ?_
            (refine ho_opn rfl rfl h ?_); clear h a; ((refine does_storeO 0 hm rfl rfl rfl rfl rfl rfl rfl ?_; clear hm; intro w hm; (simp only [Value.cells, splice, nqq, Nat.reduceAdd, Nat.reduceMul, Int.reduceAdd, Int.reduceToNat] at hm))); intro a h; refine ⟨hm.sub (by repeat' (first | refine slc ?_ | exact sln | refine sld ?_)), ?_⟩
            refine hw1 17 (by decide +kernel) ?_
            (refine ho_opn rfl rfl h ?_); clear h a; ((refine does_storeO 1 hm rfl rfl rfl rfl rfl rfl rfl ?_; clear hm; intro w hm; (simp only [Value.cells, splice, nqq, Nat.reduceAdd, Nat.reduceMul, Int.reduceAdd, Int.reduceToNat] at hm))); intro a h; refine ⟨hm.sub (by repeat' (first | refine slc ?_ | exact sln | refine sld ?_)), ?_⟩
            refine hw1 18 (by decide +kernel) ?_
            (refine ho_opn rfl rfl h ?_); clear h a; ((refine does_storeO 3 hm rfl rfl rfl rfl rfl rfl rfl ?_; clear hm; intro w hm; (simp only [Value.cells, splice, nqq, Nat.reduceAdd, Nat.reduceMul, Int.reduceAdd, Int.reduceToNat] at hm))); intro a h; refine ⟨hm.sub (by repeat' (first | refine slc ?_ | exact sln | refine sld ?_)), ?_⟩
            refine hw1 19 (by decide +kernel) ?_
            (refine ho_opn rfl rfl h ?_); clear h a; ((refine does_storeO 2 hm rfl rfl rfl rfl rfl rfl rfl ?_; clear hm; intro w hm; (simp only [Value.cells, splice, nqq, Nat.reduceAdd, Nat.reduceMul, Int.reduceAdd, Int.reduceToNat] at hm))); intro a h; refine ⟨hm.sub (by repeat' (first | refine slc ?_ | exact sln | refine sld ?_)), ?_⟩
            refine hw0 (by decide +kernel) ?_
            refine ⟨⟨rfl, rfl, _, _, _, _, ?_, h.keep ⟨rfl, rfl, rfl, rfl, rfl, rfl, rfl, rfl, rfl, rfl, rfl, rfl, rfl, trivial⟩⟩⟩; refine hm.perm ?_; (refine List.Perm.cons _ ?_); (refine List.Perm.cons _ ?_); (refine perm1 ?_); exact List.Perm.refl _
      · (refine ho_op rfl rfl rfl h ?_); clear h a; (refine does_alloc hm ?_; clear hm; intro b w hm); intro a h; refine ⟨hm.sub (by repeat' (first | refine slc ?_ | exact sln | refine sld ?_)), ?_⟩
        refine hw3 12 13 14 (by decide +kernel) ?_ ?_ ?_
        · (refine ho_op rfl rfl rfl h ?_); clear h a; (refine does_alloc hm ?_; clear hm; intro b w hm); intro a h; refine ⟨hm.sub (by repeat' (first | refine slc ?_ | exact sln | refine sld ?_)), ?_⟩
          refine hw2 13 14 (by decide +kernel) ?_ ?_
          · (refine ho_op rfl rfl rfl h ?_); clear h a; (refine does_alloc hm ?_; clear hm; intro b w hm); intro a h; refine ⟨hm.sub (by repeat' (first | refine slc ?_ | exact sln | refine sld ?_)), ?_⟩
            refine hw1 14 (by decide +kernel) ?_
            (refine ho_op rfl rfl rfl h ?_); clear h a; (refine does_alloc hm ?_; clear hm; intro b w hm); intro a h; refine ⟨hm.sub (by repeat' (first | refine slc ?_ | exact sln | refine sld ?_)), ?_⟩
            refine hw1 16 (by decide +kernel) ?_
            (refine ho_opn rfl rfl h ?_); clear h a; ((refine does_storeO 2 hm rfl rfl rfl rfl rfl rfl rfl ?_; clear hm; intro w hm; (simp only [Value.cells, splice, nqq, Nat.reduceAdd, Nat.reduceMul, Int.reduceAdd, Int.reduceToNat] at hm))); intro a h; refine ⟨hm.sub (by repeat' (first | refine slc ?_ | exact sln | refine sld ?_)), ?_⟩
            refine hw1 17 (by decide +kernel) ?_
            (refine ho_opn rfl rfl h ?_); clear h a; ((refine does_storeO 1 hm rfl rfl rfl rfl rfl rfl rfl ?_; clear hm; intro w hm; (simp only [Value.cells, splice, nqq, Nat.reduceAdd, Nat.reduceMul, Int.reduceAdd, Int.reduceToNat] at hm))); intro a h; refine ⟨hm.sub (by repeat' (first | refine slc ?_ | exact sln | refine sld ?_)), ?_⟩
            refine hw1 18 (by decide +kernel) ?_
            (refine ho_opn rfl rfl h ?_); clear h a; ((refine does_storeO 0 hm rfl rfl rfl rfl rfl rfl rfl ?_; clear hm; intro w hm; (simp only [Value.cells, splice, nqq, Nat.reduceAdd, Nat.reduceMul, Int.reduceAdd, Int.reduceToNat] at hm))); intro a h; refine ⟨hm.sub (by repeat' (first | refine slc ?_ | exact sln | refine sld ?_)), ?_⟩
            refine hw1 19 (by decide +kernel) ?_
            (refine ho_opn rfl rfl h ?_); clear h a; ((refine does_storeO 3 hm rfl rfl rfl rfl rfl rfl rfl ?_; clear hm; intro w hm; (simp only [Value.cells, splice, nqq, Nat.reduceAdd, Nat.reduceMul, Int.reduceAdd, Int.reduceToNat] at hm))); intro a h; refine ⟨hm.sub (by repeat' (first | refine slc ?_ | exact sln | refine sld ?_)), ?_⟩
            refine hw0 (by decide +kernel) ?_
            refine ⟨⟨rfl, rfl, _, _, _, _, ?_, h.keep ⟨rfl, rfl, rfl, rfl, rfl, rfl, rfl, rfl, rfl, rfl, rfl, rfl, rfl, trivial⟩⟩⟩; refine hm.perm ?_; (refine perm2 ?_); (refine perm1 ?_); (refine List.Perm.cons _ ?_); exact List.Perm.refl _
          · (refine ho_op rfl rfl rfl h ?_); clear h a; (refine does_alloc hm ?_; clear hm; intro b w hm); intro a h; refine ⟨hm.sub (by repeat' (first | refine slc ?_ | exact sln | refine sld ?_)), ?_⟩
            refine hw1 13 (by decide +kernel) ?_
            (refine ho_op rfl rfl rfl h ?_); clear h a; (refine does_alloc hm ?_; clear hm; intro b w hm); intro a h; refine ⟨hm.sub (by repeat' (first | refine slc ?_ | exact sln | refine sld ?_)), ?_⟩
            refine hw1 16 (by decide +kernel) ?_
            (refine ho_opn rfl rfl h ?_); clear h a; ((refine does_storeO 2 hm rfl rfl rfl rfl rfl rfl rfl ?_; clear hm; intro w hm; (simp only [Value.cells, splice, nqq, Nat.reduceAdd, Nat.reduceMul, Int.reduceAdd, Int.reduceToNat] at hm))); intro a h; refine ⟨hm.sub (by repeat' (first | refine slc ?_ | exact sln | refine sld ?_)), ?_⟩
            refine hw1 17 (by decide +kernel) ?_
            (refine ho_opn rfl rfl h ?_); clear h a; ((refine does_storeO 0 hm rfl rfl rfl rfl rfl rfl rfl ?_; clear hm; intro w hm; (simp only [Value.cells, splice, nqq, Nat.reduceAdd, Nat.reduceMul, Int.reduceAdd, Int.reduceToNat] at hm))); intro a h; refine ⟨hm.sub (by repeat' (first | refine slc ?_ | exact sln | refine sld ?_)), ?_⟩
            refine hw1 18 (by decide +kernel) ?_
            (refine ho_opn rfl rfl h ?_); clear h a; ((refine does_storeO 1 hm rfl rfl rfl rfl rfl rfl rfl ?_; clear hm; intro w hm; (simp only [Value.cells, splice, nqq, Nat.reduceAdd, Nat.reduceMul, Int.reduceAdd, Int.reduceToNat] at hm))); intro a h; refine ⟨hm.sub (by repeat' (first | refine slc ?_ | exact sln | refine sld ?_)), ?_⟩
            refine hw1 19 (by decide +kernel) ?_
            (refine ho_opn rfl rfl h ?_); clear h a; ((refine does_storeO 3 hm rfl rfl rfl rfl rfl rfl rfl ?_; clear hm; intro w hm; (simp only [Value.cells, splice, nqq, Nat.reduceAdd, Nat.reduceMul, Int.reduceAdd, Int.reduceToNat] at hm))); intro a h; refine ⟨hm.sub (by repeat' (first | refine slc ?_ | exact sln | refine sld ?_)), ?_⟩
            refine hw0 (by decide +kernel) ?_
            refine ⟨⟨rfl, rfl, _, _, _, _, ?_, h.keep ⟨rfl, rfl, rfl, rfl, rfl, rfl, rfl, rfl, rfl, rfl, rfl, rfl, rfl, trivial⟩⟩⟩; refine hm.perm ?_; (refine perm2 ?_); (refine List.Perm.cons _ ?_); (refine List.Perm.cons _ ?_); exact List.Perm.refl _
        · (refine ho_op rfl rfl rfl h ?_); clear h a; (refine does_alloc hm ?_; clear hm; intro b w hm); intro a h; refine ⟨hm.sub (by repeat' (first | refine slc ?_ | exact sln | refine sld ?_)), ?_⟩
          refine hw2 12 14 (by decide +kernel) ?_ ?_
          · (refine ho_op rfl rfl rfl h ?_); clear h a; (refine does_alloc hm ?_; clear hm; intro b w hm); intro a h; refine ⟨hm.sub (by repeat' (first | refine slc ?_ | exact sln | refine sld ?_)), ?_⟩
            refine hw1 14 (by decide +kernel) ?_
            (refine ho_op rfl rfl rfl h ?_); clear h a; (refine does_alloc hm ?_; clear hm; intro b w hm); intro a h; refine ⟨hm.sub (by repeat' (first | refine slc ?_ | exact sln | refine sld ?_)), ?_⟩
            refine hw1 16 (by decide +kernel) ?_
            (refine ho_opn rfl rfl h ?_); clear h a; ((refine does_storeO 1 hm rfl rfl rfl rfl rfl rfl rfl ?_; clear hm; intro w hm; (simp only [Value.cells, splice, nqq, Nat.reduceAdd, Nat.reduceMul, Int.reduceAdd, Int.reduceToNat] at hm))); intro a h; refine ⟨hm.sub (by repeat' (first | refine slc ?_ | exact sln | refine sld ?_)), ?_⟩
            refine hw1 17 (by decide +kernel) ?_
            (refine ho_opn rfl rfl h ?_); clear h a; ((refine does_storeO 2 hm rfl rfl rfl rfl rfl rfl rfl ?_; clear hm; intro w hm; (simp only [Value.cells, splice, nqq, Nat.reduceAdd, Nat.reduceMul, Int.reduceAdd, Int.reduceToNat] at hm))); intro a h; refine ⟨hm.sub (by repeat' (first | refine slc ?_ | exact sln | refine sld ?_)), ?_⟩
            refine hw1 18 (by decide +kernel) ?_
            (refine ho_opn rfl rfl h ?_); clear h a; ((refine does_storeO 0 hm rfl rfl rfl rfl rfl rfl rfl ?_; clear hm; intro w hm; (simp only [Value.cells, splice, nqq, Nat.reduceAdd, Nat.reduceMul, Int.reduceAdd, Int.reduceToNat] at hm))); intro a h; refine ⟨hm.sub (by repeat' (first | refine slc ?_ | exact sln | refine sld ?_)), ?_⟩
            refine hw1 19 (by decide +kernel) ?_
            (refine ho_opn rfl rfl h ?_); clear h a; ((refine does_storeO 3 hm rfl rfl rfl rfl rfl rfl rfl ?_; clear hm; intro w hm; (simp only [Value.cells, splice, nqq, Nat.reduceAdd, Nat.reduceMul, Int.reduceAdd, Int.reduceToNat] at hm))); intro a h; refine ⟨hm.sub (by repeat' (first | refine slc ?_ | exact sln | refine sld ?_)), ?_⟩
            refine hw0 (by decide +kernel) ?_
            refine ⟨⟨rfl, rfl, _, _, _, _, ?_, h.keep ⟨rfl, rfl, rfl, rfl, rfl, rfl, rfl, rfl, rfl, rfl, rfl, rfl, rfl, trivial⟩⟩⟩; refine hm.perm ?_; (refine perm1 ?_); (refine perm1 ?_); (refine List.Perm.cons _ ?_); exact List.Perm.refl _
          · (refine ho_op rfl rfl rfl h ?_); clear h a; (refine does_alloc hm ?_; clear hm; intro b w hm); intro a h; refine ⟨hm.sub (by repeat' (first | refine slc ?_ | exact sln | refine sld ?_)), ?_⟩
            refine hw1 12 (by decide +kernel) ?_
            (refine ho_op rfl rfl rfl h ?_); clear h a; (refine does_alloc hm ?_; clear hm; intro b w hm); intro a h; refine ⟨hm.sub (by repeat' (first | refine slc ?_ | exact sln | refine sld ?_)), ?_⟩
            refine hw1 16 (by decide +kernel) ?_
            (refine ho_opn rfl rfl h ?_); clear h a; ((refine does_storeO 0 hm rfl rfl rfl rfl rfl rfl rfl ?_; clear hm; intro w hm; (simp only [Value.cells, splice, nqq, Nat.reduceAdd, Nat.reduceMul, Int.reduceAdd, Int.reduceToNat] at hm))); intro a h; refine ⟨hm.sub (by repeat' (first | refine slc ?_ | exact sln | refine sld ?_)), ?_⟩
            refine hw1 17 (by decide +kernel) ?_
            (refine ho_opn rfl rfl h ?_); clear h a; ((refine does_storeO 2 hm rfl rfl rfl rfl rfl rfl rfl ?_; clear hm; intro w hm; (simp only [Value.cells, splice, nqq, Nat.reduceAdd, Nat.reduceMul, Int.reduceAdd, Int.reduceToNat] at hm))); intro a h; refine ⟨hm.sub (by repeat' (first | refine slc ?_ | exact sln | refine sld ?_)), ?_⟩
            refine hw1 18 (by decide +kernel) ?_
            (refine ho_opn rfl rfl h ?_); clear h a; ((refine does_storeO 1 hm rfl rfl rfl rfl rfl rfl rfl ?_; clear hm; intro w hm; (simp only [Value.cells, splice, nqq, Nat.reduceAdd, Nat.reduceMul, Int.reduceAdd, Int.reduceToNat] at hm))); intro a h; refine ⟨hm.sub (by repeat' (first | refine slc ?_ | exact sln | refine sld ?_)), ?_⟩
            refine hw1 19 (by decide +kernel) ?_
            (refine ho_opn rfl rfl h ?_); clear h a; ((refine does_storeO 3 hm rfl rfl rfl rfl rfl rfl rfl ?_; clear hm; intro w hm; (simp only [Value.cells, splice, nqq, Nat.reduceAdd, Nat.reduceMul, Int.reduceAdd, Int.reduceToNat] at hm))); intro a h; refine ⟨hm.sub (by repeat' (first | refine slc ?_ | exact sln | refine sld ?_)), ?_⟩
            refine hw0 (by decide +kernel) ?_
            refine ⟨⟨rfl, rfl, _, _, _, _, ?_, h.keep ⟨rfl, rfl, rfl, rfl, rfl, rfl, rfl, rfl, rfl, rfl, rfl, rfl, rfl, trivial⟩⟩⟩; refine hm.perm ?_; (refine List.Perm.cons _ ?_); (refine perm1 ?_); (refine List.Perm.cons _ ?_); exact List.Perm.refl _
        · (refine ho_op rfl rfl rfl h ?_); clear h a; (refine does_alloc hm ?_; clear hm; intro b w hm); intro a h; refine ⟨hm.sub (by repeat' (first | refine slc ?_ | exact sln | refine sld ?_)), ?_⟩
          refine hw2 12 13 (by decide +kernel) ?_ ?_
          · (refine ho_op rfl rfl rfl h ?_); clear h a; (refine does_alloc hm ?_; clear hm; intro b w hm); intro a h; refine ⟨hm.sub (by repeat' (first | refine slc ?_ | exact sln | refine sld ?_)), ?_⟩
            refine hw1 13 (by decide +kernel) ?_
            (refine ho_op rfl rfl rfl h ?_); clear h a; (refine does_alloc hm ?_; clear hm; intro b w hm); intro a h; refine ⟨hm.sub (by repeat' (first | refine slc ?_ | exact sln | refine sld ?_)), ?_⟩
            refine hw1 16 (by decide +kernel) ?_
            (refine ho_opn rfl rfl h ?_); clear h a; ((refine does_storeO 1 hm rfl rfl rfl rfl rfl rfl rfl ?_; clear hm; intro w hm; (simp only [Value.cells, splice, nqq, Nat.reduceAdd, Nat.reduceMul, Int.reduceAdd, Int.reduceToNat] at hm))); intro a h; refine ⟨hm.sub (by repeat' (first | refine slc ?_ | exact sln | refine sld ?_)), ?_⟩
            refine hw1 17 (by decide +kernel) ?_
            (refine ho_opn rfl rfl h ?_); clear h a; ((refine does_storeO 0 hm rfl rfl rfl rfl rfl rfl rfl ?_; clear hm; intro w hm; (simp only [Value.cells, splice, nqq, Nat.reduceAdd, Nat.reduceMul, Int.reduceAdd, Int.reduceToNat] at hm))); intro a h; refine ⟨hm.sub (by repeat' (first | refine slc ?_ | exact sln | refine sld ?_)), ?_⟩
            refine hw1 18 (by decide +kernel) ?_
            (refine ho_opn rfl rfl h ?_); clear h a; ((refine does_storeO 2 hm rfl rfl rfl rfl rfl rfl rfl ?_; clear hm; intro w hm; (simp only [Value.cells, splice, nqq, Nat.reduceAdd, Nat.reduceMul, Int.reduceAdd, Int.reduceToNat] at hm))); intro a h; refine ⟨hm.sub (by repeat' (first | refine slc ?_ | exact sln | refine sld ?_)), ?_⟩
            refine hw1 19 (by decide +kernel) ?_
            (refine ho_opn rfl rfl h ?_); clear h a; ((refine does_storeO 3 hm rfl rfl rfl rfl rfl rfl rfl ?_; clear hm; intro w hm; (simp only [Value.cells, splice, nqq, Nat.reduceAdd, Nat.reduceMul, Int.reduceAdd, Int.reduceToNat] at hm))); intro a h; refine ⟨hm.sub (by repeat' (first | refine slc ?_ | exact sln | refine sld ?_)), ?_⟩
            refine hw0 (by decide +kernel) ?_
            refine ⟨⟨rfl, rfl, _, _, _, _, ?_, h.keep ⟨rfl, rfl, rfl, rfl, rfl, rfl, rfl, rfl, rfl, rfl, rfl, rfl, rfl, trivial⟩⟩⟩; refine hm.perm ?_; (refine perm1 ?_); (refine List.Perm.cons _ ?_); (refine List.Perm.cons _ ?_); exact List.Perm.refl _
          · (refine ho_op rfl rfl rfl h ?_); clear h a; (refine does_alloc hm ?_; clear hm; intro b w hm); intro a h; refine ⟨hm.sub (by repeat' (first | refine slc ?_ | exact sln | refine sld ?_)), ?_⟩
            refine hw1 12 (by decide +kernel) ?_
            (refine ho_op rfl rfl rfl h ?_); clear h a; (refine does_alloc hm ?_; clear hm; intro b w hm); intro a h; refine ⟨hm.sub (by repeat' (first | refine slc ?_ | exact sln | refine sld ?_)), ?_⟩
            refine hw1 16 (by decide +kernel) ?_
            (refine ho_opn rfl rfl h ?_); clear h a; ((refine does_storeO 0 hm rfl rfl rfl rfl rfl rfl rfl ?_; clear hm; intro w hm; (simp only [Value.cells, splice, nqq, Nat.reduceAdd, Nat.reduceMul, Int.reduceAdd, Int.reduceToNat] at hm))); intro a h; refine ⟨hm.sub (by repeat' (first | refine slc ?_ | exact sln | refine sld ?_)), ?_⟩
            refine hw1 17 (by decide +kernel) ?_
            (refine ho_opn rfl rfl h ?_); clear h a; ((refine does_storeO 1 hm rfl rfl rfl rfl rfl rfl rfl ?_; clear hm; intro w hm; (simp only [Value.cells, splice, nqq, Nat.reduceAdd, Nat.reduceMul, Int.reduceAdd, Int.reduceToNat] at hm))); intro a h; refine ⟨hm.sub (by repeat' (first | refine slc ?_ | exact sln | refine sld ?_)), ?_⟩
            refine hw1 18 (by decide +kernel) ?_
            (refine ho_opn rfl rfl h ?_); clear h a; ((refine does_storeO 2 hm rfl rfl rfl rfl rfl rfl rfl ?_; clear hm; intro w hm; (simp only [Value.cells, splice, nqq, Nat.reduceAdd, Nat.reduceMul, Int.reduceAdd, Int.reduceToNat] at hm))); intro a h; refine ⟨hm.sub (by repeat' (first | refine slc ?_ | exact sln | refine sld ?_)), ?_⟩
            refine hw1 19 (by decide +kernel) ?_
            (refine ho_opn rfl rfl h ?_); clear h a; ((refine does_storeO 3 hm rfl rfl rfl rfl rfl rfl rfl ?_; clear hm; intro w hm; (simp only [Value.cells, splice, nqq, Nat.reduceAdd, Nat.reduceMul, Int.reduceAdd, Int.reduceToNat] at hm))); intro a h; refine ⟨hm.sub (by repeat' (first | refine slc ?_ | exact sln | refine sld ?_)), ?_⟩
            refine hw0 (by decide +kernel) ?_
            refine ⟨⟨rfl, rfl, _, _, _, _, ?_, h.keep ⟨rfl, rfl, rfl, rfl, rfl, rfl, rfl, rfl, rfl, rfl, rfl, rfl, rfl, trivial⟩⟩⟩; refine hm.perm ?_; (refine List.Perm.cons _ ?_); (refine List.Perm.cons _ ?_); (refine List.Perm.cons _ ?_); exact List.Perm.refl _
    clear h hm
    rintro a w ⟨q20, q21, q22, q23, hm, h⟩
    simp only [List.cons_append, List.nil_append] at hm
    repeat' (first | refine c_seq ?_ | refine c_region ?_ | refine c_nil ?_ | refine k_then ?_ | refine c_ret ?_ | ((first | refine st_op rfl rfl h ?_ | refine st_opn rfl h ?_); clear h a; (first | (show Does _ (.buildSlice _ _ _) _ _ _ _; (refine does_buildSlice hm rfl rfl rfl ?_; clear hm; intro b w hm; (simp only [rep, nqr, Value.cells, splice, nqq, Nat.reduceAdd, Nat.reduceMul, Int.reduceAdd, Int.reduceToNat] at hm))) | (show Does _ (.store _ _ _) _ _ _ _; ((refine does_storeO 7 hm rfl rfl rfl rfl rfl rfl rfl ?_; clear hm; intro w hm; (simp only [Value.cells, splice, nqq, Nat.reduceAdd, Nat.reduceMul, Int.reduceAdd, Int.reduceToNat] at hm)))) | (show Does _ (.load _ _) _ _ _ _; (first | refine does_loadO 9 hm rfl rfl rfl ?_ | refine does_loadO 10 hm rfl rfl rfl ?_ | refine does_loadO 11 hm rfl rfl rfl ?_ | refine does_loadOA 0 hm rfl rfl rfl ?_ | refine does_loadOA 1 hm rfl rfl rfl ?_ | refine does_loadOA 2 hm rfl rfl rfl ?_ | refine does_loadOA 3 hm rfl rfl rfl ?_)) | (show Does _ (.build _ _) _ _ _ _; refine does_build rfl rfl ?_)); intro a h; (first | simp only [Value.cells, splice, nqq, Nat.reduceAdd, Nat.reduceMul, Int.reduceAdd, Int.reduceToNat, Int.reduceTMod] at h | skip)))
    replace hm := (hm.toRow 0 (n := 2) (cap := 2) 12 rfl rfl (by decide)).lower hle
    exact k_retM (i := 16) (vs := [_]) rfl h hm rfl (fun w hm => ⟨⟨rv_cell1 (i := 7) hm rfl rfl rfl, trivial⟩, _, ⟨_, _, [((v1x, v1y, v1z), (v2x, v2y, v2z), (v3x, v3y, v3z), (u : Int), (v : Int), D.nn), ((v2x, v2y, v2z), (v4x, v4y, v4z), (v3x, v3y, v3z), (u : Int), (v : Int), D.nn)], rfl, rfl, by simp, by (intro m hm; simp only [List.mem_cons, List.not_mem_nil, or_false] at hm; rcases hm with rfl | rfl; exact ⟨g1, g2, g3⟩; exact ⟨g2, g4, g3⟩)⟩, hm.sub (by repeat' (first | exact sln | refine slc ?_))⟩)
end Go.Proofs.YtcbnegmmjflmcaaGreat.St.Rnd
