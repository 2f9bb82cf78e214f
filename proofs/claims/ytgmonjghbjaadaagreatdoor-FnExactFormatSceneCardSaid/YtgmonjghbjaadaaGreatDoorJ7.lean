/-
  Contracts of the functions on textures: sizes, copies, sameness.
-/
import Derived.Test.YtgmonjghbjaadaaGreatDoorLNum
import Derived.Test.YtgmonjghbjaadaaGreatDoorJ3
import Derived.Test.YtgmonjghbjaadaaGreatDoorJ2
import Derived.Laws.Cover3

section
set_option linter.unusedSimpArgs false
set_option linter.unusedVariables false
namespace Go.Proofs.YtgmonjghbjaadaaGreatDoor.St
open Go.RowKit
theorem row_newsl {α : Type} {enc : α → List Value} {sz : Nat} {xs : List α} {v : Value} {T : TypeId} {W0 w : World} {B : Heap} {L : List Own} (hm : Mem W0 [] B (.row v T sz (xs.map enc).flatten :: L) w) (hf : ∀ x, (enc x).length = sz) (hsz : 0 < sz) :
    ∃ p cap, v = .slice p xs.length cap ∧ xs.length ≤ cap ∧ cap ≤ maxLen ∧ Sl (newHeap W0 w) p enc sz xs := by
  obtain ⟨p, n, cap, rfl, h4, h5, h6, h7⟩ := row_at (i := 0) hm rfl
  rw [flat_len hf] at h4
  have hn : n = xs.length := (Nat.eq_of_mul_eq_mul_right hsz h4).symm
  subst hn
  refine ⟨p, cap, rfl, h5, h6, sl_of_flat hf rfl fun h0 => ?_⟩
  obtain ⟨b, rfl, hat⟩ := h7 h0
  refine ⟨b, rfl, ?_⟩
  obtain ⟨g1, arr, T', fz, g2, g3⟩ := hat
  have hb : W0.heap.size ≤ b := by
    rcases hm.fresh _ (List.mem_cons_self ..) b rfl with h | h
    · exact h
    · simp at h
  refine ⟨g1, arr, T', fz, ?_, g3⟩
  have : ¬ b < W0.heap.size := by omega
  simp only [newHeap, this, if_false]
  exact g2
set_option maxHeartbeats 2000000 in
theorem toTexture_ok (g : Int) (p : Option Addr) (xs : List Int) (c : Nat) (hxs : xs.length ≤ 1048576) : FunG Tryz.prog 21 [.agg #[I g, .slice p xs.length c]] (fun H => Sl H p eI 1 xs)
    (fun v L' => ∃ u, v = .agg #[I g, u] ∧ L' = [.row u 3 1 (xs.map eI).flatten]) := by
  refine enterFunG Tryz.func21 rfl Tryz.ntmps21 rfl (fun W0 w a hp hm h => ?_)
  repeat' (first | refine c_seq ?_ | refine c_region ?_ | refine c_nil ?_ | refine k_then ?_ | ((first | refine st_op rfl rfl h ?_ | refine st_opn rfl h ?_); clear h a; (first | (show Does _ (.box _ _) _ _ _ _; (refine does_box hm rfl rfl ?_; clear hm; intro b w hm)) | (show Does _ (.alloc _) _ _ _ _; (refine does_alloc hm ?_; clear hm; intro b w hm)) | (show Does _ (.store _ _ _) _ _ _ _; ((refine does_storeO 0 hm rfl rfl rfl rfl rfl rfl rfl ?_; clear hm; intro w hm; (try simp only [Value.cells, List.toList_toArray, List.set_cons_zero, List.set_cons_succ, splice, Nat.zero_add, Nat.reduceAdd, Nat.reduceMul, Int.reduceAdd, Int.reduceToNat, Nat.zero_mul, Nat.one_mul, Int.toNat_natCast] at hm)))) | (show Does _ (.fieldAddr _ _ _) _ _ _ _; (refine does_fieldAddrL rfl ?_)) | (show Does _ (.load _ _) _ _ _ _; (refine does_loadO 2 hm rfl rfl rfl ?_))); intro a h; (try simp only [Value.cells, List.toList_toArray, splice, List.set_cons_zero, List.set_cons_succ, List.drop_zero, List.drop_succ_cons, List.take_succ_cons, List.take_zero, Nat.zero_add, Nat.reduceAdd, Nat.reduceMul, Int.reduceAdd, Int.reduceToNat, Int.reduceTMod, Nat.zero_mul, Nat.one_mul, Int.toNat_natCast] at h)))
  refine st_op rfl rfl h ?_; clear h a; refine does_funN hm en48 rfl (toIntN_ok _ _ _ (by omega)) (by repeat' (exact Sl.up (by assumption) hm)) ?_; clear hm; intro v w hm a h
  obtain ⟨p3, c3, rfl, hcc3, hcm3⟩ := row_slice (i := 0) hm rfl (fun _ => rfl) (by omega)
  repeat' (first | refine c_seq ?_ | refine c_region ?_ | refine c_nil ?_ | refine k_then ?_ | refine c_ret ?_ | ((first | refine st_op rfl rfl h ?_ | refine st_opn rfl h ?_); clear h a; (first | (show Does _ (.store _ _ _) _ _ _ _; (first | (refine does_storeO 1 hm rfl rfl rfl rfl rfl rfl rfl ?_; clear hm; intro w hm; (try simp only [Value.cells, List.toList_toArray, List.set_cons_zero, List.set_cons_succ, splice, Nat.zero_add, Nat.reduceAdd, Nat.reduceMul, Int.reduceAdd, Int.reduceToNat, Nat.zero_mul, Nat.one_mul, Int.toNat_natCast] at hm)) | (refine does_storeO 2 hm rfl rfl rfl rfl rfl rfl rfl ?_; clear hm; intro w hm; (try simp only [Value.cells, List.toList_toArray, List.set_cons_zero, List.set_cons_succ, splice, Nat.zero_add, Nat.reduceAdd, Nat.reduceMul, Int.reduceAdd, Int.reduceToNat, Nat.zero_mul, Nat.one_mul, Int.toNat_natCast] at hm)))) | (show Does _ (.fieldAddr _ _ _) _ _ _ _; (refine does_fieldAddrL rfl ?_)) | (show Does _ (.load _ _) _ _ _ _; (refine does_loadOA 1 hm rfl rfl rfl ?_))); intro a h; (try simp only [Value.cells, List.toList_toArray, splice, List.set_cons_zero, List.set_cons_succ, List.drop_zero, List.drop_succ_cons, List.take_succ_cons, List.take_zero, Nat.zero_add, Nat.reduceAdd, Nat.reduceMul, Int.reduceAdd, Int.reduceToNat, Int.reduceTMod, Nat.zero_mul, Nat.one_mul, Int.toNat_natCast] at h)))
  exact k_ret (vs := [_]) rfl h ⟨rv_cellA (i := 2) hm rfl rfl rfl, trivial⟩ ⟨_, ⟨_, rfl, rfl⟩, hm.sub (List.Sublist.cons_cons _ (List.nil_sublist _))⟩
def TextureR (g : Int) (xs : List Int) (v : Value) (H : Heap) : Prop := ∃ p c, v = .agg #[I g, .slice p xs.length c] ∧ xs.length ≤ c ∧ c ≤ maxLen ∧ Sl H p eI 1 xs
instance (g : Int) (xs : List Int) : MonoR (TextureR g xs) := ⟨fun _ _ _ hle ⟨p, c, h0, h1, h2, h3⟩ => ⟨p, c, h0, h1, h2, h3.mono hle⟩⟩
theorem toTextureR_ok (g : Int) (p : Option Addr) (xs : List Int) (c : Nat) (hxs : xs.length ≤ 1048576) : FunR Tryz.prog 21 [.agg #[I g, .slice p xs.length c]] (fun H => Sl H p eI 1 xs) (TextureR g xs) := by
  refine ⟨fun w hp => ((toTexture_ok g p xs c hxs).out w hp).mono ?_⟩
  rintro e w' ⟨v, L', rfl, ⟨u, rfl, rfl⟩, hm⟩
  obtain ⟨p', cap, rfl, h1, h2, h3⟩ := row_newsl hm (fun _ => rfl) (by omega)
  exact ⟨_, rfl, hm.below, p', cap, rfl, h1, h2, h3⟩
set_option maxHeartbeats 2000000 in
theorem szTexture_ok (g : Int) (p : Option Addr) (n c : Nat) (left : Int) (hn : n ≤ 9223372036854775807) (hl : 0 ≤ left ∧ left ≤ 1048576) : Fun Tryz.prog 9 [.agg #[I g, .slice p n c], I left] (I (if left - n < 0 then -1 else left - n)) := by
  refine enterFun Tryz.func9 rfl Tryz.ntmps9 rfl (fun W0 w a hm h => ?_)
  repeat' (first | refine c_seq ?_ | refine c_region ?_ | refine c_nil ?_ | refine k_then ?_ | refine k_thenR ?_ | refine c_skip ?_ | refine c_ret ?_ | ((refine st_op rfl rfl h ?_); clear h a; (first | (show Does _ (.box _ _) _ _ _ _; (refine does_box hm rfl rfl ?_; clear hm; intro b w hm)) | (show Does _ (.call _) _ _ _ _; (refine does_funM hm en36 rfl (szIntS_ok _ _ _ _ (by first | assumption | omega) (by first | assumption | omega)) ?_; clear hm; intro w hm)) | (show Does _ (.move _) _ _ _ _; refine does_move rfl ?_) | (show Does _ (.assign _) _ _ _ _; refine does_assign rfl ?_) | (show Does _ (.fieldAddr _ _ _) _ _ _ _; (refine does_fieldAddrL rfl ?_)) | (show Does _ (.load _ _) _ _ _ _; (refine does_loadO 0 hm rfl rfl rfl ?_)) | (show Does _ (.binOp _ _ _ _ _) _ _ _ _; (refine does_lss rfl rfl ?_))); intro a h; (try simp only [Value.cells, List.toList_toArray, splice, List.set_cons_zero, List.set_cons_succ, List.drop_zero, List.drop_succ_cons, List.take_succ_cons, List.take_zero, Nat.zero_add, Nat.reduceAdd, Nat.reduceMul, Int.reduceAdd, Int.reduceToNat, Int.reduceTMod, Nat.zero_mul, Nat.one_mul, Int.toNat_natCast] at h)) | ((refine c_condD h rfl ?_ ?_) <;> intro hc <;> (try (fail))))
  all_goals (refine k_ret1 rfl h rfl ⟨?_, hm.below⟩)
  all_goals (first | rfl | exact intE (by omega))
set_option maxHeartbeats 2000000 in
theorem eqTexture_same (g : Int) (p q : Option Addr) (xs : List Int) (c d : Nat) (hxs : xs.length ≤ 1048576) : FunP Tryz.prog 33 [.agg #[I g, .slice p xs.length c], .agg #[I g, .slice q xs.length d]] (fun H => Sl H p eI 1 xs ∧ Sl H q eI 1 xs) (.bool true) := by
  refine enterFunP Tryz.func33 rfl Tryz.ntmps33 rfl (fun W0 w a hp hm h => ?_)
  obtain ⟨hx, hy⟩ := hp
  repeat' (first | refine c_seq ?_ | refine c_region ?_ | refine c_nil ?_ | refine k_then ?_ | refine c_skip ?_ | refine c_ret ?_ | refine c_condF h rfl ?_ | ((refine st_op rfl rfl h ?_); clear h a; (first | (show Does _ (.box _ _) _ _ _ _; (refine does_box hm rfl rfl ?_; clear hm; intro b w hm)) | (show Does _ (.call _) _ _ _ _; (refine does_funP2 hm en67 rfl (by repeat' (first | with_reducible refine And.intro ?_ ?_ | exact Sl.up (by assumption) hm)) (eqIntN_ok _ _ _ _ _ _ (by simp only [maxLen]; omega)) ?_; clear hm; intro w hm)) | (show Does _ (.assign _) _ _ _ _; refine does_assign rfl ?_) | (show Does _ (.fieldAddr _ _ _) _ _ _ _; (refine does_fieldAddrL rfl ?_)) | (show Does _ (.load _ _) _ _ _ _; (first | refine does_loadO 0 hm rfl rfl rfl ?_ | refine does_loadO 1 hm rfl rfl rfl ?_)) | (show Does _ (.binOp _ _ _ _ _) _ _ _ _; (refine does_neqF rfl rfl (by omega) ?_)) | (show Does _ (.unOp _ _ _) _ _ _ _; (refine does_notD rfl ?_))); intro a h; (try simp only [Value.cells, List.toList_toArray, splice, List.set_cons_zero, List.set_cons_succ, List.drop_zero, List.drop_succ_cons, List.take_succ_cons, List.take_zero, Nat.zero_add, Nat.reduceAdd, Nat.reduceMul, Int.reduceAdd, Int.reduceToNat, Int.reduceTMod, Nat.zero_mul, Nat.one_mul, Int.toNat_natCast] at h)) | ((refine c_condD h rfl ?_ ?_) <;> intro hc <;> (try (exact absurd trivial hc))))
  all_goals first | exact absurd rfl hc | ((refine k_ret1 rfl h rfl ⟨?_, hm.below⟩); rfl)
end Go.Proofs.YtgmonjghbjaadaaGreatDoor.St
end

section
/-
  Rows appended, copied within and stored into.
-/
set_option linter.unusedSimpArgs false
set_option linter.unusedVariables false
namespace Go.Proofs.YtgmonjghbjaadaaGreatDoor.St
open Go.RowKit
section
variable {P : Program} {E : Env} {w W0 : World} {X : List Nat} {B : Heap} {L : List Own} {Φ : Value → World → Prop} {ty t : TypeId} {x y : Operand}
/-- append to a row; the new slice's length is told -/
theorem does_appS (i : Nat) {e n m c bytes sz : Nat} {zs cs news : List Value} {z : Value} {q : Addr} {v : Value} [hs : SliceT P t e] [hz : ZeroC P e zs] [hb : Sz P e z sz bytes] (hm : Mem W0 X B L w) (hx : ev E x = some v) (hy : ev E y = some (.slice (some q) m c)) (hL : L[i]? = some (.row v e sz cs)) (hsz : 0 < sz) (hcs : cs.length = n * sz)
    (hl : news.length = m * sz) (hat : At (fun b => w.heap[b]?) q news) (ho : ∀ u ∈ news, u.oneCell' = true) (hby : (n + m) * bytes ≤ 140737488355328) (h63 : n + m ≤ maxLen)
    (k : ∀ p' c' w', n + m ≤ c' → c' ≤ maxLen → Mem W0 X B (L.set i (.row (.slice p' (n + m) c') e sz (cs ++ news))) w' → Φ (.slice p' (n + m) c') w') :
    Does P (.call { callee := .builtin .append, args := [x, y].toArray, argTypes := [t, t].toArray }) ty E w Φ := by
  refine does_app i hm hx hy hL hsz hcs hl hat ho hby h63 fun v' w' hm' => ?_
  have hlt : i < L.length := (List.getElem?_eq_some_iff.1 hL).1
  obtain ⟨p, n', cap, rfl, h4, h5, h6, _⟩ := row_at (i := i) hm' (List.getElem?_set_self hlt)
  have hn' : n' = n + m := by
    rw [List.length_append, hcs, hl, ← Nat.add_mul] at h4
    exact (Nat.eq_of_mul_eq_mul_right hsz h4).symm
  subst hn'
  exact k p cap w' h5 h6 hm'
/-- append a slice, empty or not, to a row -/
theorem does_appX (i : Nat) {e n m c bytes sz : Nat} {zs cs news : List Value} {z : Value} {p : Option Addr} {v : Value} [hs : SliceT P t e] [hz : ZeroC P e zs] [hb : Sz P e z sz bytes] (hm : Mem W0 X B L w) (hx : ev E x = some v) (hy : ev E y = some (.slice p m c)) (hL : L[i]? = some (.row v e sz cs)) (hsz : 0 < sz) (hcs : cs.length = n * sz)
    (hl : news.length = m * sz) (hat : m = 0 ∨ ∃ q, p = some q ∧ At (fun b => w.heap[b]?) q news) (ho : ∀ u ∈ news, u.oneCell' = true) (hby : (n + m) * bytes ≤ 140737488355328) (h63 : n + m ≤ maxLen)
    (k : ∀ p' c' w', n + m ≤ c' → c' ≤ maxLen → Mem W0 X B (L.set i (.row (.slice p' (n + m) c') e sz (cs ++ news))) w' → Φ (.slice p' (n + m) c') w') :
    Does P (.call { callee := .builtin .append, args := [x, y].toArray, argTypes := [t, t].toArray }) ty E w Φ := by
  by_cases hm0 : m = 0
  · subst hm0
    have hnews : news = [] := List.eq_nil_of_length_eq_zero (by simpa using hl)
    subst hnews
    obtain ⟨p', n', cap, rfl, h4, h5, h6, _⟩ := row_at hm hL
    have hn' : n' = n := by
      rw [hcs] at h4
      exact (Nat.eq_of_mul_eq_mul_right hsz h4).symm
    subst hn'
    obtain ⟨inf, hi, hzz, hsize, hbytes⟩ := sz_parts (h := hb)
    have hset : L.set i (.row (.slice p' n' cap) e sz cs) = L := by
      apply List.ext_getElem?
      intro j
      by_cases hij : i = j
      · subst hij
        rw [List.getElem?_set_self (List.getElem?_eq_some_iff.1 hL).1, hL]
      · rw [List.getElem?_set_ne hij]
    refine does_builtin (vs := [.slice p' n' cap, .slice p 0 c]) (by simp [evs, hx, hy]) (r := .slice p' n' cap) (w' := w) ?_ (k p' cap w h5 h6 (by rw [Nat.add_zero, List.append_nil, hset]; exact hm))
    intro _
    cases p' <;> cases p <;> simp [builtin, Builtin.append_, run_underlying hs.out, sizeOf, typeInfo, hi, Builtin.lenOf, Builtin.firstCells, h5, loadCells, loadCellsFrom, storeCells]
  · rcases hat with h | ⟨q, rfl, hat⟩
    · exact absurd h hm0
    · exact does_appS i hm hx hy hL hsz hcs hl hat ho hby h63 k
end
/-- a call that takes some of one's own and gives others: whatever else one owns stays -/
structure FunL (P : Program) (f : FuncId) (vs : List Value) (L0 : List Own) (pre : Heap → Prop) (R : Value → List Own → Prop) : Prop where
  out : ∀ W0 X B L w, pre B → Mem W0 X B (L0 ++ L) w → Calls P f vs.toArray w fun e w' => ∃ v L', e = .returned v ∧ R v L' ∧ Mem W0 X B (L' ++ L) w'
section
variable {P : Program} {E : Env} {w W0 : World} {X : List Nat} {B : Heap} {L : List Own} {Φ : Value → World → Prop} {ty t : TypeId} {x y : Operand}
theorem enterFunL {f : FuncId} {fn : Func} {c : Code} {vs : List Value} {n : Nat} {L0 : List Own} {pre : Heap → Prop} {R : Value → List Own → Prop} (hf : P.funcs[f]? = some fn) (hb : fn.body = some c) (hn : fn.ntmps = n) (hl : Nat.ble vs.length n = true)
    (h : ∀ W0 X B L w a, pre B → Mem W0 X B (L0 ++ L) w → Holds (enumE 0 vs) n a → CW P c (Post P fn fun u w' => ∃ L', R u L' ∧ Mem W0 X B (L' ++ L) w') a w) : FunL P f vs L0 pre R := by
  refine ⟨fun W0 X B L w hp hm => ?_⟩
  refine (enter (R := fun u w' => ∃ L', R u L' ∧ Mem W0 X B (L' ++ L) w') hf hb hn hl (fun a ha => h W0 X B L w a hp hm ha)).mono ?_
  rintro e w' ⟨u, rfl, L', hR, hm⟩
  exact ⟨u, L', rfl, hR, hm⟩
end
end Go.Proofs.YtgmonjghbjaadaaGreatDoor.St
end

section
/-
  Slices with both bounds; copies, clearings and appends within a block; comparison with nil.
-/
set_option linter.unusedSimpArgs false
set_option linter.unusedVariables false
namespace Go.Proofs.YtgmonjghbjaadaaGreatDoor.St
open Go.RowKit
section
variable {P : Program} {E : Env} {w W0 : World} {X : List Nat} {B : Heap} {L : List Own} {Φ : Value → World → Prop} {ty t t' : TypeId} {x y : Operand}
end
end Go.Proofs.YtgmonjghbjaadaaGreatDoor.St
end
