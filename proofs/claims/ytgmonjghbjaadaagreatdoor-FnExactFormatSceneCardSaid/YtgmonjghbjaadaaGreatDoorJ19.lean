/-
  Contracts of the functions on lists of programs: sizes, copies, sameness.
-/
import Derived.Test.YtgmonjghbjaadaaGreatDoorLPrg
import Derived.Test.YtgmonjghbjaadaaGreatDoorJ13
import Derived.Test.YtgmonjghbjaadaaGreatDoorJ3
import Derived.Test.YtgmonjghbjaadaaGreatDoorLSfs

section
set_option linter.unusedSimpArgs false
set_option linter.unusedVariables false
namespace Go.Proofs.YtgmonjghbjaadaaGreatDoor.St
open Go.RowKit Go.WideShapes
/-- a program as it lies: its rows too -/
structure TProg where
  xs : List TNode
  ys : List TAssignment
  p : Option Addr
  c : Nat
  q : Option Addr
  d : Nat
abbrev eP (x : TProg) : List Value := [.slice x.p x.xs.length x.c, .slice x.q x.ys.length x.d]
structure ProgsH (B : Heap) (p : Option Addr) (xs : List TProg) : Prop where
  row : Sl B p eP 2 xs
  parts : ∀ x ∈ xs, ProgH B x.p x.q x.xs x.ys
theorem ProgsH.mono {B B' : Heap} {p : Option Addr} {xs : List TProg} (h : ProgsH B p xs) (hB : Heap.le B B') : ProgsH B' p xs := ⟨h.row.mono hB, fun x hx => (h.parts x hx).mono hB⟩
theorem ProgsH.up {W0 w : World} {X : List Nat} {B : Heap} {L : List Own} {p : Option Addr} {xs : List TProg} (h : ProgsH B p xs) (hm : Mem W0 X B L w) : ProgsH (fun b => w.heap[b]?) p xs := h.mono hm.base
def bdP (x : TProg) : Prop := (∀ y ∈ x.xs, bdN y) ∧ bdA x.ys ∧ x.xs.length ≤ maxLen ∧ x.ys.length ≤ maxLen
def smP (x : TProg) : Prop := (x.xs.length ≤ 1048576 ∧ ∀ y ∈ x.xs, smN y) ∧ x.ys.length ≤ 1048576
abbrev aP (x : TProg) : List PNode × List TAssignment := (x.xs.map aN, x.ys)
theorem bdP.get {xs : List TProg} (h : ∀ x ∈ xs, bdP x) {k : Nat} (hk : k < xs.length) : (∀ y ∈ xs[k].xs, bdN y) ∧ bdA xs[k].ys ∧ xs[k].xs.length ≤ 9223372036854775807 ∧ xs[k].ys.length ≤ 9223372036854775807 := by
  obtain ⟨h1, h2, h3, h4⟩ := h _ (List.getElem_mem hk)
  exact ⟨h1, h2, h3, h4⟩
set_option maxHeartbeats 4000000 in
theorem szProgramS_ok (p : Option Addr) (xs : List TProg) (c : Nat) (left : Int) (hbd : ∀ x ∈ xs, bdP x) (hn : xs.length ≤ 9223372036854775807) (hl : 0 ≤ left ∧ left ≤ 1048576) : FunV Tryz.prog 10 [.slice p xs.length c, I left] (fun H => ProgsH H p xs) (leftP left (xs.length ≤ 1048576 ∧ ∀ x ∈ xs, smP x)) := by
  refine enterFunV Tryz.func10 rfl Tryz.ntmps10 rfl (fun W0 w a hp hm h => ?_)
  repeat' (first | refine c_seq ?_ | refine c_region ?_ | refine c_nil ?_ | refine k_then ?_ | refine k_thenR ?_ | refine c_skip ?_ | refine c_ret ?_ | refine c_block ?_ | ((refine st_op rfl rfl h ?_); clear h a; (first | (show Does _ (.call _) _ _ _ _; (refine does_lenS (SliceT.out) rfl ?_)) | (show Does _ (.move _) _ _ _ _; refine does_move rfl ?_) | (show Does _ (.assign _) _ _ _ _; refine does_assign rfl ?_) | (show Does _ (.binOp _ _ _ _ _) _ _ _ _; (first | refine zlss rfl rfl ?_ | refine zsub rfl rfl ?_))); intro a h; (try simp only [Value.cells, splice, nz, Nat.reduceAdd, Nat.reduceMul, Int.reduceAdd, Int.reduceToNat, Int.reduceTMod] at h)) | ((refine c_condD h rfl ?_ ?_) <;> intro hc <;> (try (fail))))
  · exact k_ret1 rfl h rfl ⟨⟨_, rfl, .inl rfl⟩, hm.below⟩
  · refine c_loop (σ := Nat × Int) (fun s a w => s.1 ≤ xs.length ∧ (0 ≤ s.2 ∧ s.2 ≤ left) ∧ (∀ j x, j < s.1 → xs[j]? = some x → smP x) ∧ Mem W0 [] (fun b => W0.heap[b]?) [] w ∧ Holds [(0, .slice p xs.length c), (1, I s.2), (5, .int .i64 s.1)] _ a) (fun s => xs.length - s.1) (0, left - xs.length)
      ⟨Nat.zero_le _, ⟨by omega, by show left - (xs.length : Int) ≤ left; omega⟩, fun j x hj => absurd hj (Nat.not_lt_zero _), hm, h.keep ⟨rfl, rfl, rfl, trivial⟩⟩ ?_
    have hlen : xs.length ≤ 1048576 := by omega
    clear h hm hc
    rintro ⟨k, l⟩ a w ⟨hk, hl2, hpre, hm, h⟩
    simp only at hk hl2 hpre h
    by_cases hlt : k < xs.length
    · obtain ⟨q1, rfl, hat1⟩ := hp.row.at hlt
      obtain ⟨hb1, hb2, hb3, hb4⟩ := bdP.get hbd hlt
      have hpart := hp.parts _ (List.getElem_mem hlt)
      have g1 : xs[k]? = some xs[k] := List.getElem?_eq_getElem hlt
      repeat' (first | refine c_seq ?_ | refine c_region ?_ | refine c_nil ?_ | refine k_then ?_ | refine k_thenR ?_ | refine k_inN ?_ | refine k_inR ?_ | refine c_skip ?_ | refine c_ret ?_ | refine c_block ?_ | refine c_condT h rfl ?_ | ((refine st_op rfl rfl h ?_); clear h a; (first | (show Does _ (.call _) _ _ _ _; (first | (refine does_funVal hm en37 rfl (szProgram_ok _ _ _ _ _ _ _ (by assumption) (by assumption) (by omega) (by omega) (by omega)) (by repeat' (exact ProgH.up (by assumption) hm)) ?_; clear hm; rintro v w ⟨r1, rfl, hr1⟩ hm) | refine does_lenS (SliceT.out) rfl ?_)) | (show Does _ (.move _) _ _ _ _; refine does_move rfl ?_) | (show Does _ (.assign _) _ _ _ _; refine does_assign rfl ?_) | (show Does _ (.load _ _) _ _ _ _; (refine does_loadBA hm rfl (by assumption) rfl ?_)) | (show Does _ (.binOp _ _ _ _ _) _ _ _ _; (first | refine zlss rfl rfl ?_ | refine zadd rfl rfl ?_)) | (show Does _ (.indexAddr _ _ _) _ _ _ _; (refine ziSn rfl rfl ?_))); intro a h; (try simp only [Value.cells, splice, nz, Nat.reduceAdd, Nat.reduceMul, Int.reduceAdd, Int.reduceToNat, Int.reduceTMod] at h)) | ((refine c_condD h rfl ?_ ?_) <;> intro hc <;> (try (fail))))
      · exact k_ret1 rfl h rfl ⟨⟨_, rfl, .inl rfl⟩, hm.below⟩
      · obtain ⟨hr2, hr3⟩ := hr1.resolve_left (by omega)
        refine k_thenN ⟨(k + 1, r1), ⟨by omega, ⟨by omega, by show r1 ≤ left; omega⟩, fun j x hj hx => ?_, hm, h.keep ⟨rfl, rfl, rfl, trivial⟩⟩, by show xs.length - (k + 1) < xs.length - k; omega⟩
        by_cases hjk : j < k
        · exact hpre j x hjk hx
        · obtain rfl : j = k := by simp only at hj; omega
          rw [g1] at hx
          cases hx
          exact hr3
    · repeat' (first | refine c_seq ?_ | refine c_region ?_ | refine c_nil ?_ | refine k_then ?_ | refine k_thenE ?_ | refine k_inE ?_ | refine c_ret ?_ | refine c_exit ?_ | refine c_condF h rfl ?_ | ((refine st_op rfl rfl h ?_); clear h a; (first | (show Does _ (.call _) _ _ _ _; (refine does_lenS (SliceT.out) rfl ?_)) | (show Does _ (.move _) _ _ _ _; refine does_move rfl ?_) | (show Does _ (.assign _) _ _ _ _; refine does_assign rfl ?_) | (show Does _ (.binOp _ _ _ _ _) _ _ _ _; (refine zlss rfl rfl ?_))); intro a h; (try simp only [Value.cells, splice, nz, Nat.reduceAdd, Nat.reduceMul, Int.reduceAdd, Int.reduceToNat, Int.reduceTMod] at h)))
      refine k_ret1 rfl h rfl ⟨⟨_, rfl, .inr ⟨hl2, hlen, fun x hx => ?_⟩⟩, hm.below⟩
      obtain ⟨j, hj⟩ := List.mem_iff_getElem?.1 hx
      exact hpre j x (by have := (List.getElem?_eq_some_iff.1 hj).1; omega) hj
structure ProgsR (ps : List (List PNode × List TAssignment)) (v : Value) (N : Heap) : Prop where
  out : ∃ p c xs, v = .slice p xs.length c ∧ (xs.length ≤ c ∧ c ≤ maxLen) ∧ xs.map aP = ps ∧ ProgsH N p xs
instance (ps : List (List PNode × List TAssignment)) : MonoR (ProgsR ps) := ⟨fun _ _ _ hle ⟨⟨p, c, xs, h0, h1, h2, h3⟩⟩ => ⟨⟨p, c, xs, h0, h1, h2, h3.mono hle⟩⟩⟩
set_option maxHeartbeats 8000000 in
theorem toProgramS_ok (p : Option Addr) (xs : List TProg) (c : Nat) (hxs : xs.length ≤ 1048576) (hsm : ∀ x ∈ xs, smP x) : FunR Tryz.prog 22 [.slice p xs.length c] (fun H => ProgsH H p xs) (ProgsR (xs.map aP)) := by
  refine enterFunR Tryz.func22 rfl Tryz.ntmps22 rfl (fun W0 w a hx hm h => ?_)
  repeat' (first | refine c_seq ?_ | refine c_region ?_ | refine c_nil ?_ | refine k_then ?_ | refine c_block ?_ | ((refine st_op rfl rfl h ?_); clear h a; (first | (show Does _ (.makeSlice _ _ _) _ _ _ _; ((refine does_make hm rfl rfl (by omega) (by omega) ?_; clear hm; intro b w hm))) | (show Does _ (.move _) _ _ _ _; refine does_move rfl ?_) | (show Does _ (.assign _) _ _ _ _; refine does_assign rfl ?_) | (show Does _ (.call _) _ _ _ _; refine does_lenS (SliceT.out) rfl ?_)); intro a h; (try simp only [Value.cells, splice, nz, Nat.reduceAdd, Nat.reduceMul, Int.reduceAdd, Int.reduceToNat, Int.reduceTMod] at h)))
  rw [fillTo_nil] at hm
  refine c_loop (σ := Nat × List TProg × Heap) (fun s a w => (s.1 ≤ xs.length ∧ s.2.1.length = s.1) ∧ Heap.le (fun b => W0.heap[b]?) s.2.2 ∧ s.2.1.map aP = (xs.take s.1).map aP ∧ (∀ y ∈ s.2.1, ProgH (newPart W0 s.2.2) y.p y.q y.xs y.ys) ∧
    Mem W0 [] s.2.2 [.blk b (.cells (fillTo xs.length [.slice none 0 0, .slice none 0 0] (s.2.1.map eP)).toArray 53)] w ∧ Holds [(0, .slice p xs.length c), (3, .slice (some ⟨b, 0, none⟩) xs.length xs.length), (4, .int .i64 s.1)] _ a) (fun s => xs.length - s.1) (0, [], fun b => W0.heap[b]?)
    ⟨⟨Nat.zero_le _, rfl⟩, fun _ _ h => h, rfl, fun y hy => by simp at hy, by simpa using hm, h.keep ⟨rfl, rfl, rfl, trivial⟩⟩ ?_
  clear h hm
  rintro ⟨k, ys, B⟩ a w ⟨⟨hk, hyl⟩, hB0, hya, hys, hm, h⟩
  simp only at hk hyl hB0 hya hys hm h
  have hxB := hx.mono hB0
  by_cases hlt : k < xs.length
  · obtain ⟨q1, rfl, hat1⟩ := hxB.row.at hlt
    have hmem := List.getElem_mem hlt
    have hpart := hxB.parts _ hmem
    obtain ⟨⟨hs1, hs2⟩, hs3⟩ := hsm _ hmem
    have hcl : (ys.map eP).length = k := by rw [List.length_map]; exact hyl
    have hal := oneLen eP 2 (fun _ => rfl) ys
    repeat' (first | refine c_seq ?_ | refine c_region ?_ | refine c_nil ?_ | refine k_then ?_ | refine c_skip ?_ | refine c_block ?_ | refine c_condT h rfl ?_ | ((refine st_op rfl rfl h ?_); clear h a; (first | (show Does _ (.move _) _ _ _ _; refine does_move rfl ?_) | (show Does _ (.load _ _) _ _ _ _; (refine does_loadBA hm rfl (by assumption) rfl ?_)) | (show Does _ (.binOp _ _ _ _ _) _ _ _ _; (refine zlss rfl rfl ?_)) | (show Does _ (.call _) _ _ _ _; refine does_lenS (SliceT.out) rfl ?_) | (show Does _ (.indexAddr _ _ _) _ _ _ _; (refine ziSn rfl rfl ?_))); intro a h; (try simp only [Value.cells, splice, nz, Nat.reduceAdd, Nat.reduceMul, Int.reduceAdd, Int.reduceToNat, Int.reduceTMod] at h)))
    refine st_op rfl rfl h ?_; clear h a; refine does_funRN hm en49 rfl (toProgram_ok xs[k].p xs[k].q xs[k].xs xs[k].ys xs[k].c xs[k].d hs1 hs2 hs3) (hpart.up hm) ?_; clear hm; rintro v w N B5 hB5 HN ⟨⟨p5, c5, q5, d5, xs5, rfl, hc5, hd5, ha5, hn5⟩⟩ hm a h
    repeat' (first | refine c_region ?_ | refine c_nil ?_ | refine k_then ?_ | refine k_inN ?_ | ((first | refine st_op rfl rfl h ?_ | refine st_opn rfl h ?_); clear h a; (first | (show Does _ (.store _ _ _) _ _ _ _; ((refine does_storeF 0 hm rfl rfl rfl (by assumption) (by assumption) rfl rfl rfl rfl (by omega) (by omega) ?_); clear hm; intro w hm; (try simp only [Value.cells, splice, nz, ns, Nat.reduceAdd, Nat.reduceMul, Int.reduceAdd, Int.reduceToNat] at hm))) | (show Does _ (.move _) _ _ _ _; refine does_move rfl ?_) | (show Does _ (.assign _) _ _ _ _; refine does_assign rfl ?_) | (show Does _ (.binOp _ _ _ _ _) _ _ _ _; (refine zadd rfl rfl ?_)) | (show Does _ (.indexAddr _ _ _) _ _ _ _; (refine ziSLn rfl rfl ?_))); intro a h; (try simp only [Value.cells, splice, nz, Nat.reduceAdd, Nat.reduceMul, Int.reduceAdd, Int.reduceToNat, Int.reduceTMod] at h)))
    have e : ys.map eP ++ [[.slice p5 xs5.length c5, .slice q5 xs[k].ys.length d5]] = (ys ++ [(⟨xs5, xs[k].ys, p5, c5, q5, d5⟩ : TProg)]).map eP := by simp
    rw [e] at hm
    refine k_thenN ⟨(k + 1, ys ++ [(⟨xs5, xs[k].ys, p5, c5, q5, d5⟩ : TProg)], B5), ⟨⟨by omega, by simp [hyl]⟩, fun _ _ h => hB5 _ _ (hB0 _ _ h), ?_, fun y hy => ?_, hm, h.keep ⟨rfl, rfl, rfl, trivial⟩⟩, by show xs.length - (k + 1) < xs.length - k; omega⟩
    · rw [List.map_append, hya, List.take_succ_eq_append_getElem hlt, List.map_append]
      simp [aP, ha5]
    · rcases List.mem_append.1 hy with hy | hy
      · exact (hys y hy).mono (newPart_mono hB5)
      · obtain rfl := List.mem_singleton.1 hy
        exact hn5.mono HN
  · obtain rfl : k = xs.length := by omega
    rw [fillTo_full (by simp; omega)] at hm
    have hfl := flat_len (enc := eP) (sz := 2) (fun _ => rfl) ys
    replace hm := hm.toRow 0 (n := ys.length) (cap := 0) 2 rfl hfl (by simp only [maxLen]; omega)
    rw [hyl] at hm
    repeat' (first | refine c_seq ?_ | refine c_region ?_ | refine c_nil ?_ | refine k_then ?_ | refine k_thenE ?_ | refine k_inE ?_ | refine c_ret ?_ | refine c_exit ?_ | refine c_condF h rfl ?_ | ((refine st_op rfl rfl h ?_); clear h a; (first | (show Does _ (.move _) _ _ _ _; refine does_move rfl ?_) | (show Does _ (.assign _) _ _ _ _; refine does_assign rfl ?_) | (show Does _ (.binOp _ _ _ _ _) _ _ _ _; (refine zlss rfl rfl ?_)) | (show Does _ (.call _) _ _ _ _; refine does_lenS (SliceT.out) rfl ?_)); intro a h; (try simp only [Value.cells, splice, nz, Nat.reduceAdd, Nat.reduceMul, Int.reduceAdd, Int.reduceToNat, Int.reduceTMod] at h)))
    obtain ⟨p3', c3', e3, k1, k2, k3⟩ := row_newsI (i := 0) hm rfl (fun _ => rfl) (by omega)
    have hnew := newPart_new hm
    rw [hyl] at e3
    refine k_ret1 rfl h rfl ⟨hm.below, ⟨⟨_, _, ys, by rw [e3, hyl], ⟨k1, k2⟩, by rw [hya, List.take_length], k3, fun y hy => (hys y hy).mono hnew⟩⟩⟩
theorem eqProgram_sameT (x y : TProg) (hxy : aP x = aP y) (hx : smP x) : FunP Tryz.prog 68 [.agg (eP x).toArray, .agg (eP y).toArray] (fun H => ProgH H x.p x.q x.xs x.ys ∧ ProgH H y.p y.q y.xs y.ys) (.bool true) := by
  obtain ⟨xs, ys, p, c, q, d⟩ := x
  obtain ⟨xs', ys', p', c', q', d'⟩ := y
  obtain ⟨h1, h2⟩ := Prod.mk.inj hxy
  simp only at h1 h2
  subst h2
  exact eqProgram_same p q p' q' xs xs' ys c d c' d' h1 hx.1.1 hx.1.2 hx.2
set_option maxHeartbeats 4000000 in
theorem eqProgramS_same (p q : Option Addr) (xs ys : List TProg) (c d : Nat) (hxy : xs.map aP = ys.map aP) (hxs : xs.length ≤ 1048576) (hsm : ∀ x ∈ xs, smP x) : FunP Tryz.prog 34 [.slice p xs.length c, .slice q ys.length d] (fun H => ProgsH H p xs ∧ ProgsH H q ys) (.bool true) := by
  have hl : xs.length = ys.length := by simpa using congrArg List.length hxy
  refine enterFunP Tryz.func34 rfl Tryz.ntmps34 rfl (fun W0 w a hp hm h => ?_)
  obtain ⟨hx, hy⟩ := hp
  repeat' (first | refine c_seq ?_ | refine c_region ?_ | refine c_nil ?_ | refine k_then ?_ | refine c_skip ?_ | refine c_block ?_ | refine c_condF h rfl ?_ | ((refine st_op rfl rfl h ?_); clear h a; (first | (show Does _ (.move _) _ _ _ _; refine does_move rfl ?_) | (show Does _ (.assign _) _ _ _ _; refine does_assign rfl ?_) | (show Does _ (.binOp _ _ _ _ _) _ _ _ _; (refine zneq rfl rfl ?_)) | (show Does _ (.call _) _ _ _ _; refine does_lenS (SliceT.out) rfl ?_)); intro a h; (try simp only [Value.cells, splice, nz, Nat.reduceAdd, Nat.reduceMul, Int.reduceAdd, Int.reduceToNat, Int.reduceTMod] at h)))
  refine c_loop (σ := Nat) (fun k a w => k ≤ xs.length ∧ Mem W0 [] (fun b => W0.heap[b]?) [] w ∧ Holds [(0, .slice p xs.length c), (1, .slice q ys.length d), (5, .int .i64 k)] _ a) (fun k => xs.length - k) 0
    ⟨Nat.zero_le _, hm, h.keep ⟨rfl, rfl, rfl, trivial⟩⟩ ?_
  clear h hm
  rintro k a w ⟨hk, hm, h⟩
  by_cases hlt : k < xs.length
  · have hlt2 : k < ys.length := by omega
    obtain ⟨q1, rfl, hat1⟩ := hx.row.at hlt
    obtain ⟨q2, rfl, hat2⟩ := hy.row.at hlt2
    obtain ⟨⟨hs1, hs2⟩, hs3⟩ := hsm _ (List.getElem_mem hlt)
    have hxa := hx.parts _ (List.getElem_mem hlt)
    have hya := hy.parts _ (List.getElem_mem hlt2)
    have he : aP xs[k] = aP ys[k] := by
      have := congrArg (fun l => l[k]?) hxy
      simpa [List.getElem?_map, hlt, hlt2] using this
    repeat' (first | refine c_seq ?_ | refine c_region ?_ | refine c_nil ?_ | refine k_then ?_ | refine k_inN ?_ | refine c_skip ?_ | refine c_block ?_ | refine c_condT h rfl ?_ | refine c_condF h rfl ?_ | ((refine st_op rfl rfl h ?_); clear h a; (first | (show Does _ (.call _) _ _ _ _; (refine does_lenS (SliceT.out) rfl ?_)) | (show Does _ (.move _) _ _ _ _; refine does_move rfl ?_) | (show Does _ (.assign _) _ _ _ _; refine does_assign rfl ?_) | (show Does _ (.binOp _ _ _ _ _) _ _ _ _; (first | refine zlss rfl rfl ?_ | refine zadd rfl rfl ?_))); intro a h; (try simp only [Value.cells, splice, nz, Nat.reduceAdd, Nat.reduceMul, Int.reduceAdd, Int.reduceToNat, Int.reduceTMod] at h)) | (apply c_drawM (id := 6) 10 [.val _, .val _, .val _, .val _, .val _, .val _, .val _, .val _, .val _, .val _] mixed (by kernel_rfl) (h := h) (hm := hm); (case vcs => (repeat' (first | exact vcs_nil | refine vcs_cons ?_ ?_ | (intro w hm; (repeat (first | refine dep_val ?_ | refine dep_nil ?_)); first | exact vc_skip rfl | exact vc_alloc rfl | exact vc_box rfl rfl rfl | exact vc_buildSlice rfl rfl rfl rfl | exact vc_makeSlice (by omega) (by omega) rfl rfl rfl | exact vc_store rfl rfl rfl rfl rfl rfl rfl rfl rfl rfl | (apply vc_run rfl; (first | (show Does _ (.call _) _ _ _ _; (((refine does_funPX2 en68 rfl (by repeat' (first | with_reducible refine And.intro ?_ ?_ | exact ProgH.up (by assumption) hm)) (eqProgram_sameT xs[k] ys[k] he ⟨⟨hs1, hs2⟩, hs3⟩) ?_)))) | (show Does _ (.move _) _ _ _ _; refine does_move rfl ?_) | (show Does _ (.load _ _) _ _ _ _; (refine does_loadBA hm rfl (by assumption) rfl ?_)) | (show Does _ (.unOp _ _ _) _ _ _ _; (refine does_not rfl ?_)) | (show Does _ (.indexAddr _ _ _) _ _ _ _; (refine does_indexSn (by omega) rfl rfl ?_))); (first | exact ⟨ext_refl _, rfl⟩ | exact fun _ hx => ⟨hx, rfl⟩)))))); (case hup => kernel_rfl); (case hown => kernel_rfl); (case hnp => kernel_rfl); clear h hm a; intro  w hm; (try simp only [List.map_nil, List.nil_append] at hm); (repeat (first | refine dep_val ?_ | refine dep_nil ?_)); intro a h; (try simp only [Value.cells, List.toList_toArray, splice, List.set_cons_zero, List.set_cons_succ, List.drop_zero, List.drop_succ_cons, List.take_succ_cons, List.take_zero, Nat.zero_add, Nat.reduceAdd, Nat.reduceMul, Int.reduceAdd, Int.reduceToNat, Int.reduceTMod, Nat.zero_mul, Nat.one_mul, Int.toNat_natCast] at h)))
    exact k_thenN ⟨k + 1, ⟨by omega, hm, h.keep ⟨rfl, rfl, rfl, trivial⟩⟩, by omega⟩
  · repeat' (first | refine c_seq ?_ | refine c_region ?_ | refine c_nil ?_ | refine k_then ?_ | refine k_thenE ?_ | refine k_inE ?_ | refine c_ret ?_ | refine c_exit ?_ | refine c_condF h rfl ?_ | ((refine st_op rfl rfl h ?_); clear h a; (first | (show Does _ (.move _) _ _ _ _; refine does_move rfl ?_) | (show Does _ (.assign _) _ _ _ _; refine does_assign rfl ?_) | (show Does _ (.binOp _ _ _ _ _) _ _ _ _; (refine zlss rfl rfl ?_)) | (show Does _ (.call _) _ _ _ _; refine does_lenS (SliceT.out) rfl ?_)); intro a h; (try simp only [Value.cells, splice, nz, Nat.reduceAdd, Nat.reduceMul, Int.reduceAdd, Int.reduceToNat, Int.reduceTMod] at h)))
    (refine k_ret1 rfl h rfl ⟨?_, hm.below⟩)
    rfl
end Go.Proofs.YtgmonjghbjaadaaGreatDoor.St
end

section
/-
  Contracts of the functions that compare programs, lists of programs and of surfaces.
-/
set_option linter.unusedSimpArgs false
set_option linter.unusedVariables false
namespace Go.Proofs.YtgmonjghbjaadaaGreatDoor.St
open Go.RowKit
end Go.Proofs.YtgmonjghbjaadaaGreatDoor.St
end
