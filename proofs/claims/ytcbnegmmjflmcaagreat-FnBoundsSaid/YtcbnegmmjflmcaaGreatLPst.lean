/-
  The state of the reference's parser: looking at the next token, failing, expecting, emitting a node.
-/
import Derived.Test.YtcbnegmmjflmcaaGreatJ17
import Derived.Test.YtcbnegmmjflmcaaGreatJ13
import Derived.Test.YtcbnegmmjflmcaaGreatJ12
import Derived.Test.YtcbnegmmjflmcaaGreatJ7
import Derived.Test.YtcbnegmmjflmcaaGreatJ4
import Derived.Test.YtcbnegmmjflmcaaGreatJ3
set_option linter.unusedSimpArgs false
set_option linter.unusedVariables false
namespace Go.Proofs.YtcbnegmmjflmcaaGreat.St
open Go.RowKit
structure PSt where
  at_ : Nat
  xs : List TNode
  pn : Option Addr
  cn : Nat
  bad : Int
abbrev psC (pt : Option Addr) (nt ct : Nat) (pa : Option Addr) (m ca : Nat) (s : PSt) : List Value := [.slice pt nt ct, I s.at_, .slice s.pn s.xs.length s.cn, .slice pa m ca, I s.bad]
abbrev psB (b : Nat) (pt : Option Addr) (nt ct : Nat) (pa : Option Addr) (m ca : Nat) (s : PSt) : Own := .blk b (.cells (psC pt nt ct pa m ca s).toArray 143)
abbrev psN (s : PSt) : Own := .row (.slice s.pn s.xs.length s.cn) 155 4 (s.xs.map eN).flatten
abbrev psL (b : Nat) (pt : Option Addr) (nt ct : Nat) (pa : Option Addr) (m ca : Nat) (s : PSt) : List Own := [psB b pt nt ct pa m ca s, psN s]
def pkT (ts : List PTok) (i : Nat) : ByteArray := match ts[i]? with
  | some t => if t.k = 3 then t.t else ⟨#[]⟩
  | none => ⟨#[]⟩
theorem pkT_y {ts : List PTok} {i : Nat} (hi : i < ts.length) (h : ts[i].k = 3) : pkT ts i = ts[i].t := by
  unfold pkT
  rw [List.getElem?_eq_getElem hi]
  exact if_pos h
theorem pkT_n {ts : List PTok} {i : Nat} (hi : i < ts.length) (h : ¬ ts[i].k = 3) : pkT ts i = ⟨#[]⟩ := by
  unfold pkT
  rw [List.getElem?_eq_getElem hi]
  exact if_neg h
theorem ToksH.adv {B : Heap} {p : Option Addr} {ts : List PTok} (h : ToksH B p ts) {i : Nat} (hi : i < ts.length) (hk : ¬ ts[i].k = 0) : i + 1 < ts.length := by
  obtain ⟨r, e, rfl, he⟩ := h.last
  simp only [List.length_append, List.length_singleton] at hi ⊢
  rcases Nat.lt_or_ge i r.length with hlt | hge
  · omega
  · obtain rfl : i = r.length := by omega
    simp at hk
    exact absurd he hk
theorem ToksH.pk {B : Heap} {p : Option Addr} {ts : List PTok} (h : ToksH B p ts) {i : Nat} (hi : i < ts.length) {t : ByteArray} (ht : ¬ t.size = 0) (hk : pkT ts i = t) : i + 1 < ts.length := by
  refine h.adv hi fun e => ?_
  rw [pkT_n hi (by omega)] at hk
  subst hk
  exact ht rfl
section
variable {P : Program} {E : Env} {w W0 : World} {X : List Nat} {B : Heap} {L : List Own} {Φ : Value → World → Prop} {ty t t' : TypeId} {x y : Operand}
theorem does_neqStrPT [StrT P t] {m n : ByteArray} (hx : ev E x = some (.string m)) (hy : ev E y = some (.string n)) (h : ¬ m = n) (k : Φ (.bool true) w) : Does P (.binOp .neq t x y t') ty E w Φ := does_neqStr hx hy (by rw [bT h]; exact k)
theorem does_neqStrPF [StrT P t] {m n : ByteArray} (hx : ev E x = some (.string m)) (hy : ev E y = some (.string n)) (h : m = n) (k : Φ (.bool false) w) : Does P (.binOp .neq t x y t') ty E w Φ := does_neqStr hx hy (by rw [bF (fun e => e h)]; exact k)
theorem Mem.to1 {x p q : Own} (hm : Mem W0 X B (x :: p :: q :: L) w) : Mem W0 X B (p :: q :: x :: L) w := hm.perm (List.perm_append_comm (l₁ := [x]) (l₂ := [p, q]) |>.append_right L)
end
set_option maxHeartbeats 4000000 in
theorem l13Peek_ok (b : Nat) (pt : Option Addr) (ct : Nat) (pa : Option Addr) (m ca : Nat) (s : PSt) (ts : List PTok) (hi : s.at_ < ts.length) :
    FunL Tryz.prog 97 [.pointer (some ⟨b, 0, none⟩)] (psL b pt ts.length ct pa m ca s) (fun H => ToksH H pt ts) (fun v L' => v = .string (pkT ts s.at_) ∧ L' = psL b pt ts.length ct pa m ca s) := by
  refine enterFunL Tryz.func97 rfl Tryz.ntmps97 rfl (fun W0 X B L w a hp hm h => ?_)
  simp only [psL, List.cons_append, List.nil_append] at hm
  obtain ⟨q1, rfl, hat⟩ := hp.row.at hi
  have hfew := hp.few
  by_cases hk : ts[s.at_].k = 3
  · repeat' (first | refine c_seq ?_ | refine c_region ?_ | refine c_nil ?_ | refine k_then ?_ | refine k_thenR ?_ | refine c_ret ?_ | refine c_condT h rfl ?_ | ((refine st_op rfl rfl h ?_); clear h a; (first | (show Does _ (.assign _) _ _ _ _; refine does_assign rfl ?_) | (show Does _ (.fieldAddr _ _ _) _ _ _ _; (refine does_fieldAddrL rfl ?_)) | (show Does _ (.load _ _) _ _ _ _; (refine zl hm rfl rfl ?_)) | (show Does _ (.binOp _ _ _ _ _) _ _ _ _; refine zeql rfl rfl ?_)); intro a h; (first | simp only [Value.cells, splice, nz, Nat.reduceAdd, Nat.reduceMul, Int.reduceAdd, Int.reduceToNat, Int.reduceTMod] at h | skip)) | (apply c_drawM (id := 1) 12 [.val _, .val _, .val _, .val _, .val _, .val _, .val _, .val _, .val _, .val _, .own _ _, .upd 10 _] mixed (by kernel_rfl) (h := h) (hm := hm); (case vcs => (repeat' (first | exact vcs_nil | refine vcs_cons ?_ ?_ | (intro w hm; (repeat (first | refine dep_val ?_ | (refine dep_own ?_; intro _) | refine dep_nil ?_)); first | exact vc_skip rfl | exact vc_alloc rfl | exact vc_box rfl rfl rfl | exact vc_buildSlice rfl rfl rfl rfl | exact vc_makeSlice (by omega) (by omega) rfl rfl rfl | exact vc_store rfl rfl rfl rfl rfl rfl rfl rfl rfl rfl | (apply vc_run rfl; (first | (show Does _ (.nilCheck _) _ _ _ _; ((refine does_nilCheck rfl ?_))) | (show Does _ (.move _) _ _ _ _; refine does_move rfl ?_) | (show Does _ (.fieldAddr _ _ _) _ _ _ _; (refine does_fieldAddrL rfl ?_)) | (show Does _ (.load _ _) _ _ _ _; (first | refine does_loadO 0 hm rfl rfl rfl ?_ | refine does_loadBA hm rfl (by assumption) rfl ?_)) | (show Does _ (.indexAddr _ _ _) _ _ _ _; (refine does_indexSn (by omega) rfl rfl ?_))); (exact ⟨ext_refl _, rfl⟩)))))); (case hup => kernel_rfl); (case hown => kernel_rfl); (case hnp => kernel_rfl); clear h hm a; intro b1_0 w hm; (simp only [lastO, List.map_cons, List.map_nil, List.cons_append, List.nil_append, reduceIte, Nat.reduceEqDiff, splice, List.set_cons_zero, List.set_cons_succ, Nat.zero_add, Nat.reduceAdd] at hm); (repeat (first | refine dep_val ?_ | refine dep_nil ?_)); intro a h; (dsimp only at h); (simp only [Value.cells, splice, nqq, Nat.reduceAdd, Nat.reduceMul, Int.reduceAdd, Int.reduceToNat, Int.reduceTMod] at h)))
    exact k_ret1 rfl h rfl ⟨_, ⟨by rw [pkT_y hi hk], rfl⟩, hm.drop⟩
  · repeat' (first | refine c_seq ?_ | refine c_region ?_ | refine c_nil ?_ | refine k_then ?_ | refine c_skip ?_ | refine c_ret ?_ | refine c_condF h rfl ?_ | ((refine st_op rfl rfl h ?_); clear h a; (first | (show Does _ (.assign _) _ _ _ _; refine does_assign rfl ?_) | (show Does _ (.fieldAddr _ _ _) _ _ _ _; (refine does_fieldAddrL rfl ?_)) | (show Does _ (.load _ _) _ _ _ _; (refine zl hm rfl rfl ?_)) | (show Does _ (.binOp _ _ _ _ _) _ _ _ _; refine zeql rfl rfl ?_)); intro a h; (first | simp only [Value.cells, splice, nz, Nat.reduceAdd, Nat.reduceMul, Int.reduceAdd, Int.reduceToNat, Int.reduceTMod] at h | skip)) | (apply c_drawM (id := 1) 12 [.val _, .val _, .val _, .val _, .val _, .val _, .val _, .val _, .val _, .val _, .own _ _, .upd 10 _] mixed (by kernel_rfl) (h := h) (hm := hm); (case vcs => (repeat' (first | exact vcs_nil | refine vcs_cons ?_ ?_ | (intro w hm; (repeat (first | refine dep_val ?_ | (refine dep_own ?_; intro _) | refine dep_nil ?_)); first | exact vc_skip rfl | exact vc_alloc rfl | exact vc_box rfl rfl rfl | exact vc_buildSlice rfl rfl rfl rfl | exact vc_makeSlice (by omega) (by omega) rfl rfl rfl | exact vc_store rfl rfl rfl rfl rfl rfl rfl rfl rfl rfl | (apply vc_run rfl; (first | (show Does _ (.nilCheck _) _ _ _ _; ((refine does_nilCheck rfl ?_))) | (show Does _ (.move _) _ _ _ _; refine does_move rfl ?_) | (show Does _ (.fieldAddr _ _ _) _ _ _ _; (refine does_fieldAddrL rfl ?_)) | (show Does _ (.load _ _) _ _ _ _; (first | refine does_loadO 0 hm rfl rfl rfl ?_ | refine does_loadBA hm rfl (by assumption) rfl ?_)) | (show Does _ (.indexAddr _ _ _) _ _ _ _; (refine does_indexSn (by omega) rfl rfl ?_))); (exact ⟨ext_refl _, rfl⟩)))))); (case hup => kernel_rfl); (case hown => kernel_rfl); (case hnp => kernel_rfl); clear h hm a; intro b1_0 w hm; (simp only [lastO, List.map_cons, List.map_nil, List.cons_append, List.nil_append, reduceIte, Nat.reduceEqDiff, splice, List.set_cons_zero, List.set_cons_succ, Nat.zero_add, Nat.reduceAdd] at hm); (repeat (first | refine dep_val ?_ | refine dep_nil ?_)); intro a h; (dsimp only at h); (simp only [Value.cells, splice, nqq, Nat.reduceAdd, Nat.reduceMul, Int.reduceAdd, Int.reduceToNat, Int.reduceTMod] at h)))
    exact k_ret1 rfl h rfl ⟨_, ⟨by rw [pkT_n hi hk], rfl⟩, hm.drop⟩
def flS (o : Nat) (s : PSt) : PSt := { s with bad := if s.bad < 0 then (o : Int) else s.bad }
set_option maxHeartbeats 4000000 in
theorem l13Fail_ok (b : Nat) (pt : Option Addr) (ct : Nat) (pa : Option Addr) (m ca : Nat) (s : PSt) (ts : List PTok) (hi : s.at_ < ts.length) :
    FunL Tryz.prog 81 [.pointer (some ⟨b, 0, none⟩)] (psL b pt ts.length ct pa m ca s) (fun H => ToksH H pt ts) (fun v L' => v = I 0 ∧ L' = psL b pt ts.length ct pa m ca (flS ts[s.at_].o s)) := by
  refine enterFunL Tryz.func81 rfl Tryz.ntmps81 rfl (fun W0 X B L w a hp hm h => ?_)
  simp only [psL, List.cons_append, List.nil_append] at hm
  obtain ⟨q1, rfl, hat⟩ := hp.row.at hi
  have hfew := hp.few
  by_cases hk : s.bad < 0
  · repeat' (first | refine c_seq ?_ | refine c_region ?_ | refine c_nil ?_ | refine k_then ?_ | refine c_condT h rfl ?_ | ((refine st_op rfl rfl h ?_); clear h a; (first | (show Does _ (.nilCheck _) _ _ _ _; ((refine does_nilCheck rfl ?_))) | (show Does _ (.move _) _ _ _ _; refine does_move rfl ?_) | (show Does _ (.assign _) _ _ _ _; refine does_assign rfl ?_) | (show Does _ (.fieldAddr _ _ _) _ _ _ _; (refine does_fieldAddrL rfl ?_)) | (show Does _ (.load _ _) _ _ _ _; (refine zl hm rfl rfl ?_)) | (show Does _ (.binOp _ _ _ _ _) _ _ _ _; refine zlss rfl rfl ?_)); intro a h; (first | simp only [Value.cells, splice, nz, Nat.reduceAdd, Nat.reduceMul, Int.reduceAdd, Int.reduceToNat, Int.reduceTMod] at h | skip)))
    have hf : flS ts[s.at_].o s = { s with bad := (ts[s.at_].o : Int) } := by unfold flS; rw [if_pos hk]
    refine cw_cutN (fun a w => Mem W0 X B (psL b (some q1) ts.length ct pa m ca (flS ts[s.at_].o s) ++ L) w ∧ Holds [] 22 a) ?_ ?_
    · rw [hf]
      refine hw_region ([]) mixed hm ?_; clear hm; intro w hm
      refine hw_take 0 rfl (by kernel_rfl) (by kernel_rfl) (by kernel_rfl) rfl rfl rfl h (hm.sub (by repeat' (exact sln))) (fun w hm => by refine does_move rfl ?_ <;> exact ⟨rfl, rfl⟩) ?_; clear h a; intro a h
      refine hw_take 1 rfl (by kernel_rfl) (by kernel_rfl) (by kernel_rfl) rfl rfl rfl h (hm.sub (by repeat' (exact sln))) (fun w hm => by refine does_move rfl ?_ <;> exact ⟨rfl, rfl⟩) ?_; clear h a; intro a h
      refine hw_take 5 rfl (by kernel_rfl) (by kernel_rfl) (by kernel_rfl) rfl rfl rfl h (hm.sub (by repeat' (exact sln))) (fun w hm => by refine does_move rfl ?_ <;> exact ⟨rfl, rfl⟩) ?_; clear h a; intro a h
      refine hw2 2 6 (by decide +kernel) ?_ ?_
      · (refine ho_op rfl rfl rfl h ?_); clear h a; ((refine does_nilCheck rfl ?_)); intro a h; refine ⟨hm.sub (by repeat' (exact sln)), ?_⟩
        refine hw_take 3 rfl (by kernel_rfl) (by kernel_rfl) (by kernel_rfl) rfl rfl rfl h (hm.sub (by repeat' (exact sln))) (fun w hm => by (refine does_fieldAddrL rfl ?_) <;> exact ⟨rfl, rfl⟩) ?_; clear h a; intro a h; (simp only [Value.cells, splice, nz, Nat.reduceAdd, Nat.reduceMul, Int.reduceAdd, Int.reduceToNat, Int.reduceTMod] at h)
        refine hw2 4 6 (by decide +kernel) ?_ ?_
        · (refine ho_op rfl rfl rfl h ?_); clear h a; (refine zl hm rfl rfl ?_); intro a h; refine ⟨hm.sub (by repeat' (exact sln)), ?_⟩
          refine hw1 6 (by decide +kernel) ?_
          (refine ho_op rfl rfl rfl h ?_); clear h a; ((refine does_nilCheck rfl ?_)); intro a h; refine ⟨hm.sub (by repeat' (exact sln)), ?_⟩
          refine hw_take 7 rfl (by kernel_rfl) (by kernel_rfl) (by kernel_rfl) rfl rfl rfl h (hm.sub (by repeat' (exact sln))) (fun w hm => by (refine does_fieldAddrL rfl ?_) <;> exact ⟨rfl, rfl⟩) ?_; clear h a; intro a h; (simp only [Value.cells, splice, nz, Nat.reduceAdd, Nat.reduceMul, Int.reduceAdd, Int.reduceToNat, Int.reduceTMod] at h)
          refine hw1 8 (by decide +kernel) ?_
          (refine ho_op rfl rfl rfl h ?_); clear h a; (refine zl hm rfl rfl ?_); intro a h; refine ⟨hm.sub (by repeat' (exact sln)), ?_⟩
          refine hw_take 9 rfl (by kernel_rfl) (by kernel_rfl) (by kernel_rfl) rfl rfl rfl h (hm.sub (by repeat' (exact sln))) (fun w hm => by (refine ziSn rfl rfl ?_) <;> exact ⟨rfl, rfl⟩) ?_; clear h a; intro a h
          refine hw_take 10 rfl (by kernel_rfl) (by kernel_rfl) (by kernel_rfl) rfl rfl rfl h (hm.sub (by repeat' (exact sln))) (fun w hm => by (refine does_fieldAddr rfl ?_) <;> exact ⟨rfl, rfl⟩) ?_; clear h a; intro a h
          refine hw_take 11 rfl (by kernel_rfl) (by kernel_rfl) (by kernel_rfl) rfl rfl rfl h (hm.sub (by repeat' (exact sln))) (fun w hm => by (refine does_loadB hm rfl (At.add (by assumption) _) rfl ?_) <;> exact ⟨rfl, rfl⟩) ?_; clear h a; intro a h
          refine hw1 12 (by decide +kernel) ?_
          (refine ho_op rfl rfl rfl h ?_); clear h a; ((refine does_nilCheck rfl ?_)); intro a h; refine ⟨hm.sub (by repeat' (exact sln)), ?_⟩
          refine hw_take 13 rfl (by kernel_rfl) (by kernel_rfl) (by kernel_rfl) rfl rfl rfl h (hm.sub (by repeat' (exact sln))) (fun w hm => by (refine does_fieldAddrL rfl ?_) <;> exact ⟨rfl, rfl⟩) ?_; clear h a; intro a h; (simp only [Value.cells, splice, nz, Nat.reduceAdd, Nat.reduceMul, Int.reduceAdd, Int.reduceToNat, Int.reduceTMod] at h)
          refine hw1 14 (by decide +kernel) ?_
          (refine ho_opn rfl rfl h ?_); clear h a; ((refine zs hm rfl rfl rfl rfl rfl rfl ?_); clear hm; intro w hm; (simp only [Value.cells, splice, nz, ns, Nat.reduceAdd, Nat.reduceMul, Int.reduceAdd, Int.reduceToNat] at hm)); intro a h; refine ⟨hm.sub (by repeat' (exact sln)), ?_⟩
          refine hw0 (by decide +kernel) ?_
          exact ⟨⟨rfl, hm, h.keep trivial⟩⟩
        · (refine ho_op rfl rfl rfl h ?_); clear h a; ((refine does_nilCheck rfl ?_)); intro a h; refine ⟨hm.sub (by repeat' (exact sln)), ?_⟩
          refine hw_take 7 rfl (by kernel_rfl) (by kernel_rfl) (by kernel_rfl) rfl rfl rfl h (hm.sub (by repeat' (exact sln))) (fun w hm => by (refine does_fieldAddrL rfl ?_) <;> exact ⟨rfl, rfl⟩) ?_; clear h a; intro a h; (simp only [Value.cells, splice, nz, Nat.reduceAdd, Nat.reduceMul, Int.reduceAdd, Int.reduceToNat, Int.reduceTMod] at h)
          refine hw2 4 8 (by decide +kernel) ?_ ?_
          · (refine ho_op rfl rfl rfl h ?_); clear h a; (refine zl hm rfl rfl ?_); intro a h; refine ⟨hm.sub (by repeat' (exact sln)), ?_⟩
            refine hw1 8 (by decide +kernel) ?_
            (refine ho_op rfl rfl rfl h ?_); clear h a; (refine zl hm rfl rfl ?_); intro a h; refine ⟨hm.sub (by repeat' (exact sln)), ?_⟩
            refine hw_take 9 rfl (by kernel_rfl) (by kernel_rfl) (by kernel_rfl) rfl rfl rfl h (hm.sub (by repeat' (exact sln))) (fun w hm => by (refine ziSn rfl rfl ?_) <;> exact ⟨rfl, rfl⟩) ?_; clear h a; intro a h
            refine hw_take 10 rfl (by kernel_rfl) (by kernel_rfl) (by kernel_rfl) rfl rfl rfl h (hm.sub (by repeat' (exact sln))) (fun w hm => by (refine does_fieldAddr rfl ?_) <;> exact ⟨rfl, rfl⟩) ?_; clear h a; intro a h
            refine hw_take 11 rfl (by kernel_rfl) (by kernel_rfl) (by kernel_rfl) rfl rfl rfl h (hm.sub (by repeat' (exact sln))) (fun w hm => by (refine does_loadB hm rfl (At.add (by assumption) _) rfl ?_) <;> exact ⟨rfl, rfl⟩) ?_; clear h a; intro a h
            refine hw1 12 (by decide +kernel) ?_
            (refine ho_op rfl rfl rfl h ?_); clear h a; ((refine does_nilCheck rfl ?_)); intro a h; refine ⟨hm.sub (by repeat' (exact sln)), ?_⟩
            refine hw_take 13 rfl (by kernel_rfl) (by kernel_rfl) (by kernel_rfl) rfl rfl rfl h (hm.sub (by repeat' (exact sln))) (fun w hm => by (refine does_fieldAddrL rfl ?_) <;> exact ⟨rfl, rfl⟩) ?_; clear h a; intro a h; (simp only [Value.cells, splice, nz, Nat.reduceAdd, Nat.reduceMul, Int.reduceAdd, Int.reduceToNat, Int.reduceTMod] at h)
            refine hw1 14 (by decide +kernel) ?_
            (refine ho_opn rfl rfl h ?_); clear h a; ((refine zs hm rfl rfl rfl rfl rfl rfl ?_); clear hm; intro w hm; (simp only [Value.cells, splice, nz, ns, Nat.reduceAdd, Nat.reduceMul, Int.reduceAdd, Int.reduceToNat] at hm)); intro a h; refine ⟨hm.sub (by repeat' (exact sln)), ?_⟩
            refine hw0 (by decide +kernel) ?_
            exact ⟨⟨rfl, hm, h.keep trivial⟩⟩
          · (refine ho_op rfl rfl rfl h ?_); clear h a; (refine zl hm rfl rfl ?_); intro a h; refine ⟨hm.sub (by repeat' (exact sln)), ?_⟩
            refine hw1 4 (by decide +kernel) ?_
            (refine ho_op rfl rfl rfl h ?_); clear h a; (refine zl hm rfl rfl ?_); intro a h; refine ⟨hm.sub (by repeat' (exact sln)), ?_⟩
            refine hw_take 9 rfl (by kernel_rfl) (by kernel_rfl) (by kernel_rfl) rfl rfl rfl h (hm.sub (by repeat' (exact sln))) (fun w hm => by (refine ziSn rfl rfl ?_) <;> exact ⟨rfl, rfl⟩) ?_; clear h a; intro a h
            refine hw_take 10 rfl (by kernel_rfl) (by kernel_rfl) (by kernel_rfl) rfl rfl rfl h (hm.sub (by repeat' (exact sln))) (fun w hm => by (refine does_fieldAddr rfl ?_) <;> exact ⟨rfl, rfl⟩) ?_; clear h a; intro a h
            refine hw_take 11 rfl (by kernel_rfl) (by kernel_rfl) (by kernel_rfl) rfl rfl rfl h (hm.sub (by repeat' (exact sln))) (fun w hm => by (refine does_loadB hm rfl (At.add (by assumption) _) rfl ?_) <;> exact ⟨rfl, rfl⟩) ?_; clear h a; intro a h
            refine hw1 12 (by decide +kernel) ?_
            (refine ho_op rfl rfl rfl h ?_); clear h a; ((refine does_nilCheck rfl ?_)); intro a h; refine ⟨hm.sub (by repeat' (exact sln)), ?_⟩
            refine hw_take 13 rfl (by kernel_rfl) (by kernel_rfl) (by kernel_rfl) rfl rfl rfl h (hm.sub (by repeat' (exact sln))) (fun w hm => by (refine does_fieldAddrL rfl ?_) <;> exact ⟨rfl, rfl⟩) ?_; clear h a; intro a h; (simp only [Value.cells, splice, nz, Nat.reduceAdd, Nat.reduceMul, Int.reduceAdd, Int.reduceToNat, Int.reduceTMod] at h)
            refine hw1 14 (by decide +kernel) ?_
            (refine ho_opn rfl rfl h ?_); clear h a; ((refine zs hm rfl rfl rfl rfl rfl rfl ?_); clear hm; intro w hm; (simp only [Value.cells, splice, nz, ns, Nat.reduceAdd, Nat.reduceMul, Int.reduceAdd, Int.reduceToNat] at hm)); intro a h; refine ⟨hm.sub (by repeat' (exact sln)), ?_⟩
            refine hw0 (by decide +kernel) ?_
            exact ⟨⟨rfl, hm, h.keep trivial⟩⟩
      · (refine ho_op rfl rfl rfl h ?_); clear h a; ((refine does_nilCheck rfl ?_)); intro a h; refine ⟨hm.sub (by repeat' (exact sln)), ?_⟩
        refine hw_take 7 rfl (by kernel_rfl) (by kernel_rfl) (by kernel_rfl) rfl rfl rfl h (hm.sub (by repeat' (exact sln))) (fun w hm => by (refine does_fieldAddrL rfl ?_) <;> exact ⟨rfl, rfl⟩) ?_; clear h a; intro a h; (simp only [Value.cells, splice, nz, Nat.reduceAdd, Nat.reduceMul, Int.reduceAdd, Int.reduceToNat, Int.reduceTMod] at h)
        refine hw2 2 8 (by decide +kernel) ?_ ?_
        · (refine ho_op rfl rfl rfl h ?_); clear h a; ((refine does_nilCheck rfl ?_)); intro a h; refine ⟨hm.sub (by repeat' (exact sln)), ?_⟩
          refine hw_take 3 rfl (by kernel_rfl) (by kernel_rfl) (by kernel_rfl) rfl rfl rfl h (hm.sub (by repeat' (exact sln))) (fun w hm => by (refine does_fieldAddrL rfl ?_) <;> exact ⟨rfl, rfl⟩) ?_; clear h a; intro a h; (simp only [Value.cells, splice, nz, Nat.reduceAdd, Nat.reduceMul, Int.reduceAdd, Int.reduceToNat, Int.reduceTMod] at h)
          refine hw2 4 8 (by decide +kernel) ?_ ?_
          · (refine ho_op rfl rfl rfl h ?_); clear h a; (refine zl hm rfl rfl ?_); intro a h; refine ⟨hm.sub (by repeat' (exact sln)), ?_⟩
            refine hw1 8 (by decide +kernel) ?_
            (refine ho_op rfl rfl rfl h ?_); clear h a; (refine zl hm rfl rfl ?_); intro a h; refine ⟨hm.sub (by repeat' (exact sln)), ?_⟩
            refine hw_take 9 rfl (by kernel_rfl) (by kernel_rfl) (by kernel_rfl) rfl rfl rfl h (hm.sub (by repeat' (exact sln))) (fun w hm => by (refine ziSn rfl rfl ?_) <;> exact ⟨rfl, rfl⟩) ?_; clear h a; intro a h
            refine hw_take 10 rfl (by kernel_rfl) (by kernel_rfl) (by kernel_rfl) rfl rfl rfl h (hm.sub (by repeat' (exact sln))) (fun w hm => by (refine does_fieldAddr rfl ?_) <;> exact ⟨rfl, rfl⟩) ?_; clear h a; intro a h
            refine hw_take 11 rfl (by kernel_rfl) (by kernel_rfl) (by kernel_rfl) rfl rfl rfl h (hm.sub (by repeat' (exact sln))) (fun w hm => by (refine does_loadB hm rfl (At.add (by assumption) _) rfl ?_) <;> exact ⟨rfl, rfl⟩) ?_; clear h a; intro a h
            refine hw1 12 (by decide +kernel) ?_
            (refine ho_op rfl rfl rfl h ?_); clear h a; ((refine does_nilCheck rfl ?_)); intro a h; refine ⟨hm.sub (by repeat' (exact sln)), ?_⟩
            refine hw_take 13 rfl (by kernel_rfl) (by kernel_rfl) (by kernel_rfl) rfl rfl rfl h (hm.sub (by repeat' (exact sln))) (fun w hm => by (refine does_fieldAddrL rfl ?_) <;> exact ⟨rfl, rfl⟩) ?_; clear h a; intro a h; (simp only [Value.cells, splice, nz, Nat.reduceAdd, Nat.reduceMul, Int.reduceAdd, Int.reduceToNat, Int.reduceTMod] at h)
            refine hw1 14 (by decide +kernel) ?_
            (refine ho_opn rfl rfl h ?_); clear h a; ((refine zs hm rfl rfl rfl rfl rfl rfl ?_); clear hm; intro w hm; (simp only [Value.cells, splice, nz, ns, Nat.reduceAdd, Nat.reduceMul, Int.reduceAdd, Int.reduceToNat] at hm)); intro a h; refine ⟨hm.sub (by repeat' (exact sln)), ?_⟩
            refine hw0 (by decide +kernel) ?_
            exact ⟨⟨rfl, hm, h.keep trivial⟩⟩
          · (refine ho_op rfl rfl rfl h ?_); clear h a; (refine zl hm rfl rfl ?_); intro a h; refine ⟨hm.sub (by repeat' (exact sln)), ?_⟩
            refine hw1 4 (by decide +kernel) ?_
            (refine ho_op rfl rfl rfl h ?_); clear h a; (refine zl hm rfl rfl ?_); intro a h; refine ⟨hm.sub (by repeat' (exact sln)), ?_⟩
            refine hw_take 9 rfl (by kernel_rfl) (by kernel_rfl) (by kernel_rfl) rfl rfl rfl h (hm.sub (by repeat' (exact sln))) (fun w hm => by (refine ziSn rfl rfl ?_) <;> exact ⟨rfl, rfl⟩) ?_; clear h a; intro a h
            refine hw_take 10 rfl (by kernel_rfl) (by kernel_rfl) (by kernel_rfl) rfl rfl rfl h (hm.sub (by repeat' (exact sln))) (fun w hm => by (refine does_fieldAddr rfl ?_) <;> exact ⟨rfl, rfl⟩) ?_; clear h a; intro a h
            refine hw_take 11 rfl (by kernel_rfl) (by kernel_rfl) (by kernel_rfl) rfl rfl rfl h (hm.sub (by repeat' (exact sln))) (fun w hm => by (refine does_loadB hm rfl (At.add (by assumption) _) rfl ?_) <;> exact ⟨rfl, rfl⟩) ?_; clear h a; intro a h
            refine hw1 12 (by decide +kernel) ?_
            (refine ho_op rfl rfl rfl h ?_); clear h a; ((refine does_nilCheck rfl ?_)); intro a h; refine ⟨hm.sub (by repeat' (exact sln)), ?_⟩
            refine hw_take 13 rfl (by kernel_rfl) (by kernel_rfl) (by kernel_rfl) rfl rfl rfl h (hm.sub (by repeat' (exact sln))) (fun w hm => by (refine does_fieldAddrL rfl ?_) <;> exact ⟨rfl, rfl⟩) ?_; clear h a; intro a h; (simp only [Value.cells, splice, nz, Nat.reduceAdd, Nat.reduceMul, Int.reduceAdd, Int.reduceToNat, Int.reduceTMod] at h)
            refine hw1 14 (by decide +kernel) ?_
            (refine ho_opn rfl rfl h ?_); clear h a; ((refine zs hm rfl rfl rfl rfl rfl rfl ?_); clear hm; intro w hm; (simp only [Value.cells, splice, nz, ns, Nat.reduceAdd, Nat.reduceMul, Int.reduceAdd, Int.reduceToNat] at hm)); intro a h; refine ⟨hm.sub (by repeat' (exact sln)), ?_⟩
            refine hw0 (by decide +kernel) ?_
            exact ⟨⟨rfl, hm, h.keep trivial⟩⟩
        · (refine ho_op rfl rfl rfl h ?_); clear h a; (refine zl hm rfl rfl ?_); intro a h; refine ⟨hm.sub (by repeat' (exact sln)), ?_⟩
          refine hw1 2 (by decide +kernel) ?_
          (refine ho_op rfl rfl rfl h ?_); clear h a; ((refine does_nilCheck rfl ?_)); intro a h; refine ⟨hm.sub (by repeat' (exact sln)), ?_⟩
          refine hw_take 3 rfl (by kernel_rfl) (by kernel_rfl) (by kernel_rfl) rfl rfl rfl h (hm.sub (by repeat' (exact sln))) (fun w hm => by (refine does_fieldAddrL rfl ?_) <;> exact ⟨rfl, rfl⟩) ?_; clear h a; intro a h; (simp only [Value.cells, splice, nz, Nat.reduceAdd, Nat.reduceMul, Int.reduceAdd, Int.reduceToNat, Int.reduceTMod] at h)
          refine hw1 4 (by decide +kernel) ?_
          (refine ho_op rfl rfl rfl h ?_); clear h a; (refine zl hm rfl rfl ?_); intro a h; refine ⟨hm.sub (by repeat' (exact sln)), ?_⟩
          refine hw_take 9 rfl (by kernel_rfl) (by kernel_rfl) (by kernel_rfl) rfl rfl rfl h (hm.sub (by repeat' (exact sln))) (fun w hm => by (refine ziSn rfl rfl ?_) <;> exact ⟨rfl, rfl⟩) ?_; clear h a; intro a h
          refine hw_take 10 rfl (by kernel_rfl) (by kernel_rfl) (by kernel_rfl) rfl rfl rfl h (hm.sub (by repeat' (exact sln))) (fun w hm => by (refine does_fieldAddr rfl ?_) <;> exact ⟨rfl, rfl⟩) ?_; clear h a; intro a h
          refine hw_take 11 rfl (by kernel_rfl) (by kernel_rfl) (by kernel_rfl) rfl rfl rfl h (hm.sub (by repeat' (exact sln))) (fun w hm => by (refine does_loadB hm rfl (At.add (by assumption) _) rfl ?_) <;> exact ⟨rfl, rfl⟩) ?_; clear h a; intro a h
          refine hw1 12 (by decide +kernel) ?_
          (refine ho_op rfl rfl rfl h ?_); clear h a; ((refine does_nilCheck rfl ?_)); intro a h; refine ⟨hm.sub (by repeat' (exact sln)), ?_⟩
          refine hw_take 13 rfl (by kernel_rfl) (by kernel_rfl) (by kernel_rfl) rfl rfl rfl h (hm.sub (by repeat' (exact sln))) (fun w hm => by (refine does_fieldAddrL rfl ?_) <;> exact ⟨rfl, rfl⟩) ?_; clear h a; intro a h; (simp only [Value.cells, splice, nz, Nat.reduceAdd, Nat.reduceMul, Int.reduceAdd, Int.reduceToNat, Int.reduceTMod] at h)
          refine hw1 14 (by decide +kernel) ?_
          (refine ho_opn rfl rfl h ?_); clear h a; ((refine zs hm rfl rfl rfl rfl rfl rfl ?_); clear hm; intro w hm; (simp only [Value.cells, splice, nz, ns, Nat.reduceAdd, Nat.reduceMul, Int.reduceAdd, Int.reduceToNat] at hm)); intro a h; refine ⟨hm.sub (by repeat' (exact sln)), ?_⟩
          refine hw0 (by decide +kernel) ?_
          exact ⟨⟨rfl, hm, h.keep trivial⟩⟩
    clear h hm
    rintro a w ⟨hm, h⟩
    repeat' (first | refine c_seq ?_ | refine c_region ?_ | refine c_nil ?_ | refine k_then ?_ | refine c_ret ?_ | ((refine st_op rfl rfl h ?_); clear h a; ((show Does _ (.assign _) _ _ _ _; refine does_assign rfl ?_)); intro a h))
    exact k_ret1 rfl h rfl ⟨_, ⟨rfl, rfl⟩, hm⟩
  · repeat' (first | refine c_seq ?_ | refine c_region ?_ | refine c_nil ?_ | refine k_then ?_ | refine c_skip ?_ | refine c_ret ?_ | refine c_condF h rfl ?_ | ((refine st_op rfl rfl h ?_); clear h a; (first | (show Does _ (.nilCheck _) _ _ _ _; ((refine does_nilCheck rfl ?_))) | (show Does _ (.move _) _ _ _ _; refine does_move rfl ?_) | (show Does _ (.assign _) _ _ _ _; refine does_assign rfl ?_) | (show Does _ (.fieldAddr _ _ _) _ _ _ _; (refine does_fieldAddrL rfl ?_)) | (show Does _ (.load _ _) _ _ _ _; (refine zl hm rfl rfl ?_)) | (show Does _ (.binOp _ _ _ _ _) _ _ _ _; refine zlss rfl rfl ?_)); intro a h; (first | simp only [Value.cells, splice, nz, Nat.reduceAdd, Nat.reduceMul, Int.reduceAdd, Int.reduceToNat, Int.reduceTMod] at h | skip)))
    have : flS ts[s.at_].o s = s := by unfold flS; rw [if_neg hk]
    exact k_ret1 rfl h rfl ⟨_, ⟨rfl, by rw [this]⟩, hm⟩
/-- what a parsing function keeps of the state -/
structure OkS (B : Heap) (nt : Nat) (s : PSt) : Prop where
  at_ : s.at_ < nt
  few : s.xs.length ≤ 60
  cap : s.xs.length ≤ s.cn
  args : ∀ x ∈ s.xs, Sl B x.ptr eI 1 x.a.args
  sm : ∀ x ∈ s.xs, x.a.args.length ≤ 3 ∧ x.a.name.size ≤ 2000
theorem OkS.mono {B B' : Heap} {nt : Nat} {s : PSt} (h : OkS B nt s) (hB : Heap.le B B') : OkS B' nt s := ⟨h.at_, h.few, h.cap, fun x hx => (h.args x hx).mono hB, h.sm⟩
theorem OkS.fl {B : Heap} {nt o : Nat} {s : PSt} (h : OkS B nt s) : OkS B nt (flS o s) := ⟨h.at_, h.few, h.cap, h.args, h.sm⟩
theorem OkS.next {B : Heap} {nt : Nat} {s : PSt} (h : OkS B nt s) (hlt : s.at_ + 1 < nt) : OkS B nt { s with at_ := s.at_ + 1 } := ⟨hlt, h.few, h.cap, h.args, h.sm⟩
theorem flS_bad {o : Nat} {s : PSt} : 0 ≤ (flS o s).bad := by
  unfold flS
  simp only
  split <;> omega
set_option maxHeartbeats 4000000 in
theorem l13Expect_ok (b : Nat) (pt : Option Addr) (ct : Nat) (pa : Option Addr) (m ca : Nat) (s : PSt) (ts : List PTok) (t : ByteArray) (ht : ¬ t.size = 0) (hi : s.at_ < ts.length) :
    FunL Tryz.prog 82 [.pointer (some ⟨b, 0, none⟩), .string t] (psL b pt ts.length ct pa m ca s) (fun H => ToksH H pt ts) (fun v L' => (pkT ts s.at_ = t ∧ s.at_ + 1 < ts.length ∧ v = .bool true ∧ L' = psL b pt ts.length ct pa m ca { s with at_ := s.at_ + 1 }) ∨ (¬ pkT ts s.at_ = t ∧ v = .bool false ∧ L' = psL b pt ts.length ct pa m ca (flS ts[s.at_].o s))) := by
  refine enterFunL Tryz.func82 rfl Tryz.ntmps82 rfl (fun W0 X B L w a hp hm h => ?_)
  have hPk := l13Peek_ok b pt ct pa m ca s ts hi
  have hFl := l13Fail_ok b pt ct pa m ca s ts hi
  have hfew := hp.few
  by_cases hk : pkT ts s.at_ = t
  · have hlt := hp.pk hi ht hk
    repeat' (first | refine c_seq ?_ | refine c_region ?_ | refine c_nil ?_ | refine k_then ?_ | refine c_skip ?_ | refine c_ret ?_ | refine c_condF h rfl ?_ | ((first | refine st_op rfl rfl h ?_ | refine st_opn rfl h ?_); clear h a; (first | (show Does _ (.nilCheck _) _ _ _ _; ((refine does_nilCheck rfl ?_))) | (show Does _ (.call _) _ _ _ _; ((refine does_funL (L := L) hm en97 rfl hPk hp ?_; clear hm; rintro v L1 w ⟨rfl, rfl⟩ hm; simp only [psL, List.cons_append, List.nil_append] at hm))) | (show Does _ (.binOp _ _ _ _ _) _ _ _ _; (first | ((refine does_neqStrPF rfl rfl hk ?_)) | refine zadd rfl rfl ?_)) | (show Does _ (.store _ _ _) _ _ _ _; ((refine zs hm rfl rfl rfl rfl rfl rfl ?_); clear hm; intro w hm; (simp only [Value.cells, splice, nz, ns, Nat.reduceAdd, Nat.reduceMul, Int.reduceAdd, Int.reduceToNat] at hm))) | (show Does _ (.move _) _ _ _ _; refine does_move rfl ?_) | (show Does _ (.assign _) _ _ _ _; refine does_assign rfl ?_) | (show Does _ (.fieldAddr _ _ _) _ _ _ _; (refine does_fieldAddrL rfl ?_)) | (show Does _ (.load _ _) _ _ _ _; (refine zl hm rfl rfl ?_))); intro a h; (first | simp only [Value.cells, splice, nz, Nat.reduceAdd, Nat.reduceMul, Int.reduceAdd, Int.reduceToNat, Int.reduceTMod] at h | skip)))
    exact k_ret1 rfl h rfl ⟨_, .inl ⟨hk, hlt, rfl, rfl⟩, hm⟩
  · repeat' (first | refine c_seq ?_ | refine c_region ?_ | refine c_nil ?_ | refine k_then ?_ | refine k_thenR ?_ | refine c_ret ?_ | refine c_condT h rfl ?_ | ((refine st_op rfl rfl h ?_); clear h a; (first | (show Does _ (.call _) _ _ _ _; (first | ((refine does_funL (L := L) hm en97 rfl hPk hp ?_; clear hm; rintro v L1 w ⟨rfl, rfl⟩ hm; simp only [psL, List.cons_append, List.nil_append] at hm)) | ((refine does_funL (L := L) hm en81 rfl hFl hp ?_; clear hm; rintro v L1 w ⟨rfl, rfl⟩ hm; simp only [psL, List.cons_append, List.nil_append] at hm)))) | (show Does _ (.binOp _ _ _ _ _) _ _ _ _; (((refine does_neqStrPT rfl rfl hk ?_)))) | (show Does _ (.move _) _ _ _ _; refine does_move rfl ?_) | (show Does _ (.assign _) _ _ _ _; refine does_assign rfl ?_)); intro a h))
    exact k_ret1 rfl h rfl ⟨_, .inr ⟨hk, rfl, rfl⟩, hm⟩
theorem nd_row (xs : List TNode) (x : TNode) : (xs.map eN).flatten ++ eN x = ((xs ++ [x]).map eN).flatten := by simp
/-- a node is appended, or there are too many -/
def emR (b : Nat) (pt : Option Addr) (ct : Nat) (pa : Option Addr) (m ca : Nat) (s : PSt) (ts : List PTok) (x : TNode) (v : Value) (L' : List Own) (B : Heap) : Prop :=
  (s.xs.length = 60 ∧ ∃ o, v = I 0 ∧ L' = psL b pt ts.length ct pa m ca (flS o { s with at_ := s.at_ - 1 })) ∨
  (s.xs.length < 60 ∧ ∃ p' c', v = I (s.xs.length : Int) ∧ s.xs.length + 1 ≤ c' ∧ L' = psL b pt ts.length ct pa m ca { s with xs := s.xs ++ [x], pn := p', cn := c' })
set_option maxHeartbeats 8000000 in
theorem l13Emit_ok (b : Nat) (pt : Option Addr) (ct : Nat) (pa : Option Addr) (m ca : Nat) (s : PSt) (ts : List PTok) (x : TNode) (hi : 1 ≤ s.at_ ∧ s.at_ < ts.length) (hn : s.xs.length ≤ 60) :
    FunF Tryz.prog 112 [.pointer (some ⟨b, 0, none⟩), .agg (eN x).toArray] (psL b pt ts.length ct pa m ca s) (fun H => ToksH H pt ts) (emR b pt ct pa m ca s ts x) := by
  refine enterFunF Tryz.func112 rfl Tryz.ntmps112 rfl (fun W0 X B L w a hp hm h => ?_)
  simp only [psL, List.cons_append, List.nil_append] at hm
  have hfew := hp.few
  have hfl := flat_len (enc := eN) (sz := 4) (fun _ => rfl) s.xs
  by_cases h60 : s.xs.length = 60
  · have hFl := l13Fail_ok b pt ct pa m ca { s with at_ := s.at_ - 1 } ts (by show s.at_ - 1 < ts.length; omega)
    repeat' (first | refine c_seq ?_ | refine c_region ?_ | refine c_nil ?_ | refine k_then ?_ | refine k_thenR ?_ | refine c_ret ?_ | refine c_condT h rfl ?_ | (((refine st_op (d := 3) rfl rfl h ?_; refine does_box hm rfl rfl ?_; clear h a hm; intro b_3 w hm a h))) | ((first | refine st_op rfl rfl h ?_ | refine st_opn rfl h ?_); clear h a; (first | (show Does _ (.nilCheck _) _ _ _ _; ((refine does_nilCheck rfl ?_))) | (show Does _ (.binOp _ _ _ _ _) _ _ _ _; (first | ((refine does_subTo (u := ((s.at_ - 1 : Nat) : Int)) rfl rfl (by omega) (by omega) ?_)) | refine zeql rfl rfl ?_)) | (show Does _ (.call _) _ _ _ _; (first | ((refine does_funL (L := [.blk b_3 (.cells (eN x).toArray 155)] ++ L) hm.to1 en81 rfl hFl hp ?_; clear hm; rintro v L1 w ⟨rfl, rfl⟩ hm; simp only [psL, List.cons_append, List.nil_append] at hm)) | refine does_lenS (SliceT.out) rfl ?_)) | (show Does _ (.store _ _ _) _ _ _ _; ((refine zs hm rfl rfl rfl rfl rfl rfl ?_); clear hm; intro w hm; (simp only [Value.cells, splice, nz, ns, Nat.reduceAdd, Nat.reduceMul, Int.reduceAdd, Int.reduceToNat] at hm))) | (show Does _ (.move _) _ _ _ _; refine does_move rfl ?_) | (show Does _ (.assign _) _ _ _ _; refine does_assign rfl ?_) | (show Does _ (.fieldAddr _ _ _) _ _ _ _; (refine does_fieldAddrL rfl ?_)) | (show Does _ (.load _ _) _ _ _ _; (refine zl hm rfl rfl ?_))); intro a h; (first | simp only [Value.cells, splice, nz, Nat.reduceAdd, Nat.reduceMul, Int.reduceAdd, Int.reduceToNat, Int.reduceTMod] at h | skip)))
    exact k_ret1 rfl h rfl ⟨_, B, Heap.le_refl _, .inl ⟨h60, _, rfl, rfl⟩, hm.sub (List.Sublist.cons_cons _ (List.Sublist.cons_cons _ (List.Sublist.cons _ (List.Sublist.refl _))))⟩
  · have hl1 : (s.xs ++ [x]).length = s.xs.length + 1 := by simp
    repeat' (first | refine c_seq ?_ | refine c_region ?_ | refine c_nil ?_ | refine k_then ?_ | refine c_skip ?_ | refine c_condF h rfl ?_ | (((refine st_op (d := 3) rfl rfl h ?_; refine does_box hm rfl rfl ?_; clear h a hm; intro b_3 w hm a h))) | ((refine st_op rfl rfl h ?_); clear h a; (first | (show Does _ (.nilCheck _) _ _ _ _; ((refine does_nilCheck rfl ?_))) | (show Does _ (.move _) _ _ _ _; refine does_move rfl ?_) | (show Does _ (.assign _) _ _ _ _; refine does_assign rfl ?_) | (show Does _ (.fieldAddr _ _ _) _ _ _ _; (refine does_fieldAddrL rfl ?_)) | (show Does _ (.load _ _) _ _ _ _; (refine zl hm rfl rfl ?_)) | (show Does _ (.binOp _ _ _ _ _) _ _ _ _; (refine zeql rfl rfl ?_)) | (show Does _ (.call _) _ _ _ _; refine does_lenS (SliceT.out) rfl ?_)); intro a h; (first | simp only [Value.cells, splice, nz, Nat.reduceAdd, Nat.reduceMul, Int.reduceAdd, Int.reduceToNat, Int.reduceTMod] at h | skip)))
    refine cw_cutN (fun a w => ∃ p' c', s.xs.length + 1 ≤ c' ∧ Mem W0 X B (psL b pt ts.length ct pa m ca { s with xs := s.xs ++ [x], pn := p', cn := c' } ++ L) w ∧ Holds [(0, .pointer (some ⟨b, 0, none⟩))] 40 a) ?_ ?_
    · skip
      refine hw_region ([.blk b_3 (.cells (eN x).toArray 155)]) mixed hm ?_; clear hm; intro w hm
      refine hw_take 0 rfl (by kernel_rfl) (by kernel_rfl) (by kernel_rfl) rfl rfl rfl h (hm.sub (by repeat' (first | refine slc ?_ | exact sln))) (fun w hm => by refine does_move rfl ?_ <;> exact ⟨rfl, rfl⟩) ?_; clear h a; intro a h
      refine hw_take 1 rfl (by kernel_rfl) (by kernel_rfl) (by kernel_rfl) rfl rfl rfl h (hm.sub (by repeat' (first | refine slc ?_ | exact sln))) (fun w hm => by refine does_move rfl ?_ <;> exact ⟨rfl, rfl⟩) ?_; clear h a; intro a h
      refine hw_take 6 rfl (by kernel_rfl) (by kernel_rfl) (by kernel_rfl) rfl rfl rfl h (hm.sub (by repeat' (first | refine slc ?_ | exact sln))) (fun w hm => by (refine za hm rfl rfl ?_) <;> exact ⟨rfl, rfl⟩) ?_; clear h a; intro a h; (simp only [Value.cells, splice, nz, Nat.reduceAdd, Nat.reduceMul, Int.reduceAdd, Int.reduceToNat, Int.reduceTMod] at h)
      refine hw2 2 7 (by decide +kernel) ?_ ?_
      · (refine ho_op rfl rfl rfl h ?_); clear h a; ((refine does_nilCheck rfl ?_)); intro a h; refine ⟨hm.sub (by repeat' (first | refine slc ?_ | exact sln)), ?_⟩
        refine hw_take 3 rfl (by kernel_rfl) (by kernel_rfl) (by kernel_rfl) rfl rfl rfl h (hm.sub (by repeat' (first | refine slc ?_ | exact sln))) (fun w hm => by (refine does_fieldAddrL rfl ?_) <;> exact ⟨rfl, rfl⟩) ?_; clear h a; intro a h; (simp only [Value.cells, splice, nz, Nat.reduceAdd, Nat.reduceMul, Int.reduceAdd, Int.reduceToNat, Int.reduceTMod] at h)
        refine hw_take 4 rfl (by kernel_rfl) (by kernel_rfl) (by kernel_rfl) rfl rfl rfl h (hm.sub (by repeat' (first | refine slc ?_ | exact sln))) (fun w hm => by (refine does_fieldAddrL rfl ?_) <;> exact ⟨rfl, rfl⟩) ?_; clear h a; intro a h; (simp only [Value.cells, splice, nz, Nat.reduceAdd, Nat.reduceMul, Int.reduceAdd, Int.reduceToNat, Int.reduceTMod] at h)
        refine hw2 5 7 (by decide +kernel) ?_ ?_
        · (refine ho_op rfl rfl rfl h ?_); clear h a; (refine zl hm rfl rfl ?_); intro a h; refine ⟨hm.sub (by repeat' (first | refine slc ?_ | exact sln)), ?_⟩
          refine hw1 7 (by decide +kernel) ?_
          (refine ho_op rfl rfl rfl h ?_); clear h a; (refine does_buildSlice hm rfl rfl rfl ?_; clear hm; intro b w hm; (simp only [rep, nqr, Value.cells, splice, nqq, Nat.reduceAdd, Nat.reduceMul, Int.reduceAdd, Int.reduceToNat] at hm)); intro a h; refine ⟨hm.sub (by repeat' (first | refine slc ?_ | exact sln | refine sld ?_)), ?_⟩
          refine hw1 8 (by decide +kernel) ?_
          (refine ho_op rfl rfl rfl h ?_); clear h a; (((refine does_appX 3 (n := s.xs.length) (news := eN x) hm rfl rfl rfl (by omega) hfl rfl (.inr ⟨_, rfl, at_own (i := 0) hm rfl (fun j v hv => (by rw [Nat.zero_add]; exact hv))⟩) (oneCells_mem rfl) (by omega) (by simp only [maxLen]; omega) ?_; clear hm; intro p8 c8 w hc8 hc9 hm; simp only [List.set_cons_zero, List.set_cons_succ] at hm))); intro a h; refine ⟨hm.sub (by repeat' (first | refine slc ?_ | exact sln | refine sld ?_)), ?_⟩
          refine hw1 9 (by decide +kernel) ?_
          (refine ho_op rfl rfl rfl h ?_); clear h a; ((refine does_nilCheck rfl ?_)); intro a h; refine ⟨hm.sub (by repeat' (first | refine slc ?_ | exact sln | refine sld ?_)), ?_⟩
          refine hw_take 10 rfl (by kernel_rfl) (by kernel_rfl) (by kernel_rfl) rfl rfl rfl h (hm.sub (by repeat' (first | refine slc ?_ | exact sln | refine sld ?_))) (fun w hm => by (refine does_fieldAddrL rfl ?_) <;> exact ⟨rfl, rfl⟩) ?_; clear h a; intro a h; (simp only [Value.cells, splice, nz, Nat.reduceAdd, Nat.reduceMul, Int.reduceAdd, Int.reduceToNat, Int.reduceTMod] at h)
          refine hw_take 11 rfl (by kernel_rfl) (by kernel_rfl) (by kernel_rfl) rfl rfl rfl h (hm.sub (by repeat' (first | refine slc ?_ | exact sln | refine sld ?_))) (fun w hm => by (refine does_fieldAddrL rfl ?_) <;> exact ⟨rfl, rfl⟩) ?_; clear h a; intro a h; (simp only [Value.cells, splice, nz, Nat.reduceAdd, Nat.reduceMul, Int.reduceAdd, Int.reduceToNat, Int.reduceTMod] at h)
          refine hw1 12 (by decide +kernel) ?_
          (refine ho_opn rfl rfl h ?_); clear h a; ((refine zs hm rfl rfl rfl rfl rfl rfl ?_); clear hm; intro w hm; (simp only [Value.cells, splice, nz, ns, Nat.reduceAdd, Nat.reduceMul, Int.reduceAdd, Int.reduceToNat] at hm)); intro a h; refine ⟨hm.sub (by repeat' (first | refine slc ?_ | exact sln | refine sld ?_)), ?_⟩
          refine hw0 (by decide +kernel) ?_
          (rw [nd_row, ← hl1] at hm; exact ⟨⟨rfl, p8, c8, hc8, hm.drop.drop, h.keep ⟨rfl, trivial⟩⟩⟩)
        · (refine ho_op rfl rfl rfl h ?_); clear h a; (refine does_buildSlice hm rfl rfl rfl ?_; clear hm; intro b w hm; (simp only [rep, nqr, Value.cells, splice, nqq, Nat.reduceAdd, Nat.reduceMul, Int.reduceAdd, Int.reduceToNat] at hm)); intro a h; refine ⟨hm.sub (by repeat' (first | refine slc ?_ | exact sln | refine sld ?_)), ?_⟩
          refine hw1 5 (by decide +kernel) ?_
          (refine ho_op rfl rfl rfl h ?_); clear h a; (refine zl hm rfl rfl ?_); intro a h; refine ⟨hm.sub (by repeat' (first | refine slc ?_ | exact sln | refine sld ?_)), ?_⟩
          refine hw1 8 (by decide +kernel) ?_
          (refine ho_op rfl rfl rfl h ?_); clear h a; (((refine does_appX 3 (n := s.xs.length) (news := eN x) hm rfl rfl rfl (by omega) hfl rfl (.inr ⟨_, rfl, at_own (i := 0) hm rfl (fun j v hv => (by rw [Nat.zero_add]; exact hv))⟩) (oneCells_mem rfl) (by omega) (by simp only [maxLen]; omega) ?_; clear hm; intro p8 c8 w hc8 hc9 hm; simp only [List.set_cons_zero, List.set_cons_succ] at hm))); intro a h; refine ⟨hm.sub (by repeat' (first | refine slc ?_ | exact sln | refine sld ?_)), ?_⟩
          refine hw1 9 (by decide +kernel) ?_
          (refine ho_op rfl rfl rfl h ?_); clear h a; ((refine does_nilCheck rfl ?_)); intro a h; refine ⟨hm.sub (by repeat' (first | refine slc ?_ | exact sln | refine sld ?_)), ?_⟩
          refine hw_take 10 rfl (by kernel_rfl) (by kernel_rfl) (by kernel_rfl) rfl rfl rfl h (hm.sub (by repeat' (first | refine slc ?_ | exact sln | refine sld ?_))) (fun w hm => by (refine does_fieldAddrL rfl ?_) <;> exact ⟨rfl, rfl⟩) ?_; clear h a; intro a h; (simp only [Value.cells, splice, nz, Nat.reduceAdd, Nat.reduceMul, Int.reduceAdd, Int.reduceToNat, Int.reduceTMod] at h)
          refine hw_take 11 rfl (by kernel_rfl) (by kernel_rfl) (by kernel_rfl) rfl rfl rfl h (hm.sub (by repeat' (first | refine slc ?_ | exact sln | refine sld ?_))) (fun w hm => by (refine does_fieldAddrL rfl ?_) <;> exact ⟨rfl, rfl⟩) ?_; clear h a; intro a h; (simp only [Value.cells, splice, nz, Nat.reduceAdd, Nat.reduceMul, Int.reduceAdd, Int.reduceToNat, Int.reduceTMod] at h)
          refine hw1 12 (by decide +kernel) ?_
          (refine ho_opn rfl rfl h ?_); clear h a; ((refine zs hm rfl rfl rfl rfl rfl rfl ?_); clear hm; intro w hm; (simp only [Value.cells, splice, nz, ns, Nat.reduceAdd, Nat.reduceMul, Int.reduceAdd, Int.reduceToNat] at hm)); intro a h; refine ⟨hm.sub (by repeat' (first | refine slc ?_ | exact sln | refine sld ?_)), ?_⟩
          refine hw0 (by decide +kernel) ?_
          (rw [nd_row, ← hl1] at hm; exact ⟨⟨rfl, p8, c8, hc8, hm.drop.drop, h.keep ⟨rfl, trivial⟩⟩⟩)
      · (refine ho_op rfl rfl rfl h ?_); clear h a; (refine does_buildSlice hm rfl rfl rfl ?_; clear hm; intro b w hm; (simp only [rep, nqr, Value.cells, splice, nqq, Nat.reduceAdd, Nat.reduceMul, Int.reduceAdd, Int.reduceToNat] at hm)); intro a h; refine ⟨hm.sub (by repeat' (first | refine slc ?_ | exact sln | refine sld ?_)), ?_⟩
        refine hw1 2 (by decide +kernel) ?_
        (refine ho_op rfl rfl rfl h ?_); clear h a; ((refine does_nilCheck rfl ?_)); intro a h; refine ⟨hm.sub (by repeat' (first | refine slc ?_ | exact sln | refine sld ?_)), ?_⟩
        refine hw_take 3 rfl (by kernel_rfl) (by kernel_rfl) (by kernel_rfl) rfl rfl rfl h (hm.sub (by repeat' (first | refine slc ?_ | exact sln | refine sld ?_))) (fun w hm => by (refine does_fieldAddrL rfl ?_) <;> exact ⟨rfl, rfl⟩) ?_; clear h a; intro a h; (simp only [Value.cells, splice, nz, Nat.reduceAdd, Nat.reduceMul, Int.reduceAdd, Int.reduceToNat, Int.reduceTMod] at h)
        refine hw_take 4 rfl (by kernel_rfl) (by kernel_rfl) (by kernel_rfl) rfl rfl rfl h (hm.sub (by repeat' (first | refine slc ?_ | exact sln | refine sld ?_))) (fun w hm => by (refine does_fieldAddrL rfl ?_) <;> exact ⟨rfl, rfl⟩) ?_; clear h a; intro a h; (simp only [Value.cells, splice, nz, Nat.reduceAdd, Nat.reduceMul, Int.reduceAdd, Int.reduceToNat, Int.reduceTMod] at h)
        refine hw1 5 (by decide +kernel) ?_
        (refine ho_op rfl rfl rfl h ?_); clear h a; (refine zl hm rfl rfl ?_); intro a h; refine ⟨hm.sub (by repeat' (first | refine slc ?_ | exact sln | refine sld ?_)), ?_⟩
        refine hw1 8 (by decide +kernel) ?_
        (refine ho_op rfl rfl rfl h ?_); clear h a; (((refine does_appX 3 (n := s.xs.length) (news := eN x) hm rfl rfl rfl (by omega) hfl rfl (.inr ⟨_, rfl, at_own (i := 0) hm rfl (fun j v hv => (by rw [Nat.zero_add]; exact hv))⟩) (oneCells_mem rfl) (by omega) (by simp only [maxLen]; omega) ?_; clear hm; intro p8 c8 w hc8 hc9 hm; simp only [List.set_cons_zero, List.set_cons_succ] at hm))); intro a h; refine ⟨hm.sub (by repeat' (first | refine slc ?_ | exact sln | refine sld ?_)), ?_⟩
        refine hw1 9 (by decide +kernel) ?_
        (refine ho_op rfl rfl rfl h ?_); clear h a; ((refine does_nilCheck rfl ?_)); intro a h; refine ⟨hm.sub (by repeat' (first | refine slc ?_ | exact sln | refine sld ?_)), ?_⟩
        refine hw_take 10 rfl (by kernel_rfl) (by kernel_rfl) (by kernel_rfl) rfl rfl rfl h (hm.sub (by repeat' (first | refine slc ?_ | exact sln | refine sld ?_))) (fun w hm => by (refine does_fieldAddrL rfl ?_) <;> exact ⟨rfl, rfl⟩) ?_; clear h a; intro a h; (simp only [Value.cells, splice, nz, Nat.reduceAdd, Nat.reduceMul, Int.reduceAdd, Int.reduceToNat, Int.reduceTMod] at h)
        refine hw_take 11 rfl (by kernel_rfl) (by kernel_rfl) (by kernel_rfl) rfl rfl rfl h (hm.sub (by repeat' (first | refine slc ?_ | exact sln | refine sld ?_))) (fun w hm => by (refine does_fieldAddrL rfl ?_) <;> exact ⟨rfl, rfl⟩) ?_; clear h a; intro a h; (simp only [Value.cells, splice, nz, Nat.reduceAdd, Nat.reduceMul, Int.reduceAdd, Int.reduceToNat, Int.reduceTMod] at h)
        refine hw1 12 (by decide +kernel) ?_
        (refine ho_opn rfl rfl h ?_); clear h a; ((refine zs hm rfl rfl rfl rfl rfl rfl ?_); clear hm; intro w hm; (simp only [Value.cells, splice, nz, ns, Nat.reduceAdd, Nat.reduceMul, Int.reduceAdd, Int.reduceToNat] at hm)); intro a h; refine ⟨hm.sub (by repeat' (first | refine slc ?_ | exact sln | refine sld ?_)), ?_⟩
        refine hw0 (by decide +kernel) ?_
        (rw [nd_row, ← hl1] at hm; exact ⟨⟨rfl, p8, c8, hc8, hm.drop.drop, h.keep ⟨rfl, trivial⟩⟩⟩)
    clear h hm
    rintro a w ⟨p', c', hc', hm, h⟩
    simp only [psL, List.cons_append, List.nil_append] at hm
    repeat' (first | refine c_seq ?_ | refine c_region ?_ | refine c_nil ?_ | refine k_then ?_ | refine c_ret ?_ | ((refine st_op rfl rfl h ?_); clear h a; (first | (show Does _ (.nilCheck _) _ _ _ _; ((refine does_nilCheck rfl ?_))) | (show Does _ (.binOp _ _ _ _ _) _ _ _ _; (((refine does_subTo (u := ((s.xs.length : Nat) : Int)) rfl rfl (by omega) (by omega) ?_)))) | (show Does _ (.move _) _ _ _ _; refine does_move rfl ?_) | (show Does _ (.assign _) _ _ _ _; refine does_assign rfl ?_) | (show Does _ (.fieldAddr _ _ _) _ _ _ _; (refine does_fieldAddrL rfl ?_)) | (show Does _ (.load _ _) _ _ _ _; (refine zl hm rfl rfl ?_)) | (show Does _ (.call _) _ _ _ _; refine does_lenS (SliceT.out) rfl ?_)); intro a h; (first | simp only [Value.cells, splice, nz, Nat.reduceAdd, Nat.reduceMul, Int.reduceAdd, Int.reduceToNat, Int.reduceTMod] at h | skip)))
    exact k_ret1 rfl h rfl ⟨_, B, Heap.le_refl _, .inr ⟨by omega, p', c', rfl, hc', rfl⟩, hm⟩
end Go.Proofs.YtcbnegmmjflmcaaGreat.St
