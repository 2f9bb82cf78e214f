/-
  Rows appended, copied within and stored into.
-/
import Derived.Test.YtnclbllhflinfaaStCur
set_option linter.unusedSimpArgs false
set_option linter.unusedVariables false
namespace Go.Proofs.Ytnclbllhflinfaa.St
open Go.RowKit
/-- the cells of a slice lie side by side -/
theorem Sl.flat {α : Type} {B : Heap} {q : Addr} {enc : α → List Value} {sz : Nat} {xs : List α} (hf : ∀ x, (enc x).length = sz) (hsz : 0 < sz) (h : Sl B (some q) enc sz xs) (hne : 0 < xs.length) : At B q (xs.map enc).flatten := by
  obtain ⟨a, ha, hat⟩ := h.at hne
  cases ha
  rw [Nat.zero_mul] at hat
  have hq : q.spot = none := by
    have := hat.1
    unfold Addr.add at this
    simpa using this
  obtain ⟨_, arr, T, fz, hb, _⟩ := hat
  rw [add_add q 0 0 hq] at hb
  refine ⟨hq, arr, T, fz, hb, fun j v hj => ?_⟩
  have hlt : j < (xs.map enc).flatten.length := (List.getElem?_eq_some_iff.1 hj).1
  rw [flat_len hf] at hlt
  have hi : j / sz < xs.length := Nat.div_lt_of_lt_mul (by rwa [Nat.mul_comm] at hlt)
  have hr : j % sz < sz := Nat.mod_lt _ hsz
  obtain ⟨a2, ha2, hat2⟩ := h.at hi
  cases ha2
  have hr2 : j % sz < (enc xs[j / sz]).length := by rw [hf]; exact hr
  have hg := flatten_get (oneLen enc sz hf xs) (i := j / sz) (j := j % sz) (cs := enc xs[j / sz]) (v := (enc xs[j / sz])[j % sz]) (by simp [hi]) (List.getElem?_eq_getElem hr2)
  rw [Nat.div_add_mod'] at hg
  rw [hg] at hj
  cases hj
  obtain ⟨_, arr2, T2, fz2, hb2, hat3⟩ := hat2
  rw [add_add q 0 _ hq] at hb2 hat3
  simp only at hb hb2 hat3
  rw [hb] at hb2
  cases hb2
  have := hat3 _ _ (List.getElem?_eq_getElem hr2)
  rwa [Nat.add_assoc, Nat.div_add_mod'] at this
section
variable {P : Program} {E : Env} {w W0 : World} {X : List Nat} {B : Heap} {L : List Own} {Φ : Value → World → Prop} {ty t : TypeId} {x y : Operand}
/-- append to a row; the new slice's length is told -/
theorem does_appS (i : Nat) {e n m c bytes sz : Nat} {zs cs news : List Value} {z : Value} {q : Addr} {v : Value} [hs : SliceT P t e] [hz : ZeroC P e zs] [hb : Sz P e z sz bytes] (hm : Mem W0 X B L w) (hx : ev E x = some v) (hy : ev E y = some (.slice (some q) m c)) (hL : L[i]? = some (.row v e sz cs)) (hsz : 0 < sz) (hcs : cs.length = n * sz)
    (hl : news.length = m * sz) (hat : At (fun b => w.heap[b]?) q news) (ho : ∀ u ∈ news, u.oneCell' = true) (hby : (n + m) * bytes ≤ 140737488355328) (h63 : n + m ≤ maxLen)
    (k : ∀ p' c' w', n + m ≤ c' → c' ≤ maxLen → Mem W0 X B (L.set i (.row (.slice p' (n + m) c') e sz (cs ++ news))) w' → Φ (.slice p' (n + m) c') w') :
    Does P (.call { callee := .builtin .append, args := [x, y].toArray, argTypes := [t, t].toArray }) ty E w Φ := by
  refine does_app i hm hx hy hL hsz hcs hl hat ho hby h63 fun v' w' hm' => ?_
  have hlt : i < L.length := (List.getElem?_eq_some_iff.1 hL).1
  obtain ⟨p, n', cap, rfl, h4, h5, h6, _⟩ := row_at (i := i) hm' (List.getElem?_set_self hlt)
  have hn' : n' = n + m := by
    rw [List.length_append, hcs, hl, ← Nat.add_mul] at h4
    exact (Nat.eq_of_mul_eq_mul_right hsz h4).symm
  subst hn'
  exact k p cap w' h5 h6 hm'
theorem Mem.toBlk (i : Nat) {v : Value} {T : TypeId} {sz n : Nat} {cs : List Value} (hm : Mem W0 X B L w) (hL : L[i]? = some (.row v T sz cs)) (hn : cs.length = n * sz) (h0 : 0 < n) (hsz : 0 < sz) :
    ∃ b cap spare, v = .slice (some ⟨b, 0, none⟩) n cap ∧ n ≤ cap ∧ cap ≤ maxLen ∧ (cs ++ spare).length = cap * sz ∧ Mem W0 X B (L.set i (.blk b (.cells (cs ++ spare).toArray T (0, 0)))) w := by
  obtain ⟨n', g1, g2⟩ := mem_idx hm hL
  have hnn : n' = n := by
    rw [hn] at g1
    exact (Nat.eq_of_mul_eq_mul_right hsz g1).symm
  subst hnn
  rcases g2 with ⟨_, rfl⟩ | ⟨b, cap, cur, rfl, _, hg, hc, hcm, hcs, ht⟩
  · omega
  · have hcur : cur = (cs ++ cur.toList.drop (n' * sz)).toArray := by
      apply Array.ext'
      rw [List.toList_toArray, ← ht, List.take_append_drop]
    refine ⟨b, cap, cur.toList.drop (n' * sz), rfl, hc, hcm, ?_, hm.swap i hL rfl ?_⟩
    · have := congrArg Array.size hcur
      rw [hcs, List.size_toArray] at this
      exact this.symm
    · show w.heap[b]? = _
      rw [← hcur]
      exact hg
theorem Mem.ofBlk (i : Nat) {b : Nat} {T : TypeId} {sz n cap : Nat} {cs spare : List Value} (hm : Mem W0 X B L w) (hL : L[i]? = some (.blk b (.cells (cs ++ spare).toArray T (0, 0)))) (hn : cs.length = n * sz) (hlen : (cs ++ spare).length = cap * sz) (hc : n ≤ cap) (hcm : cap ≤ maxLen) :
    Mem W0 X B (L.set i (.row (.slice (some ⟨b, 0, none⟩) n cap) T sz cs)) w := by
  refine hm.swap i hL rfl ⟨n, hn, .inr ⟨b, cap, _, rfl, Nat.zero_le _, mem_idx hm hL, hc, hcm, ?_, ?_⟩⟩
  · rw [List.size_toArray, hlen]
  · rw [← hn]
    simp
theorem does_sliceLoD {lo : Operand} {e n c s b_ : Nat} {z : Value} {p : Option Addr} {j : IntKind} {m : Int} (h0 : 0 ≤ m ∧ m ≤ n) [hs : SliceT P t e] [Sz P e z s b_] (hx : ev E x = some (.slice p n c)) (hy : ev E lo = some (.int j m))
    (k : Φ (.slice (if c = m.toNat then p else p.map (·.add (m.toNat * s))) (n - m.toNat) (c - m.toNat)) w) : Does P (.slice t x (some lo) none none) ty E w Φ := by
  refine ⟨fun ρ hρ => ?_⟩
  have : (execOp ρ (mk (.slice t x (some lo) none none) ty)).run P w = .ok (.value (.slice (if c = m.toNat then p else p.map (·.add (m.toNat * s))) (n - m.toNat) (c - m.toNat))) w := by
    simp only [execOp, mk, Instr.sliceAt, hρ _ _ hx, hρ _ _ hy, Sem.run_bind, run_underlying hs.out, Result.andThen_ok, Option.map_none, Option.map_some, Instr.slice, Instr.sliceBounds, Instr.sliceBound, asIntOf, Sem.run_pure, Option.isSome_none, run_size (P := P) (t := e)]
    simp [h0, run_size (P := P) (t := e)]
  rw [this]; exact k
theorem evs_two {ρ : Operand → Value} (hρ : Sat E ρ) {u v : Value} (hx : ev E x = some u) (hy : ev E y = some v) : #[x, y].map ρ = #[u, v] := by simp [hρ _ _ hx, hρ _ _ hy]
/-- nothing is copied -/
theorem does_copy0 {e c dl sl sc b_ s : Nat} {z : Value} {p q : Option Addr} [hs : SliceT P t e] [Sz P e z s b_] (hx : ev E x = some (.slice p dl c)) (hy : ev E y = some (.slice q sl sc)) (hl : dl = 0) (k : Φ (.int .i64 0) w) :
    Does P (.call { callee := .builtin .copy, args := [x, y].toArray, argTypes := [t, t].toArray }) ty E w Φ := by
  subst hl
  refine does_builtin (vs := [.slice p 0 c, .slice q sl sc]) (by simp [evs, hx, hy]) (fun consts => ?_) k
  have hz : (Builtin.copy_ #[t, t] ty #[.slice p 0 c, .slice q sl sc]).run P w = .ok (.int .i64 0) w := by
    cases p <;> cases q <;> simp [Builtin.copy_, run_underlying hs.out, run_size (P := P) (t := e), Builtin.lenOf, Builtin.firstCells, loadCells, loadCellsFrom, storeCells, goInt]
  simp [builtin, hz]
theorem does_sliceLoE {lo : Operand} {e n c s b b_ : Nat} {z : Value} {j : IntKind} {m : Int} (h0 : 0 ≤ m ∧ m ≤ n) (hne : c ≠ m.toNat) [hs : SliceT P t e] [Sz P e z s b_] (hx : ev E x = some (.slice (some ⟨b, 0, none⟩) n c)) (hy : ev E lo = some (.int j m))
    (k : Φ (.slice (some ⟨b, m.toNat * s, none⟩) (n - m.toNat) (c - m.toNat)) w) : Does P (.slice t x (some lo) none none) ty E w Φ := by
  refine does_sliceLoD h0 hx hy ?_
  rw [if_neg hne, Option.map_some, add_add _ 0 _ rfl, Nat.zero_add]
  exact k
/-- append a slice, empty or not, to a row -/
theorem does_appX (i : Nat) {e n m c bytes sz : Nat} {zs cs news : List Value} {z : Value} {p : Option Addr} {v : Value} [hs : SliceT P t e] [hz : ZeroC P e zs] [hb : Sz P e z sz bytes] (hm : Mem W0 X B L w) (hx : ev E x = some v) (hy : ev E y = some (.slice p m c)) (hL : L[i]? = some (.row v e sz cs)) (hsz : 0 < sz) (hcs : cs.length = n * sz)
    (hl : news.length = m * sz) (hat : m = 0 ∨ ∃ q, p = some q ∧ At (fun b => w.heap[b]?) q news) (ho : ∀ u ∈ news, u.oneCell' = true) (hby : (n + m) * bytes ≤ 140737488355328) (h63 : n + m ≤ maxLen)
    (k : ∀ p' c' w', n + m ≤ c' → c' ≤ maxLen → Mem W0 X B (L.set i (.row (.slice p' (n + m) c') e sz (cs ++ news))) w' → Φ (.slice p' (n + m) c') w') :
    Does P (.call { callee := .builtin .append, args := [x, y].toArray, argTypes := [t, t].toArray }) ty E w Φ := by
  by_cases hm0 : m = 0
  · subst hm0
    have hnews : news = [] := List.eq_nil_of_length_eq_zero (by simpa using hl)
    subst hnews
    obtain ⟨p', n', cap, rfl, h4, h5, h6, _⟩ := row_at hm hL
    have hn' : n' = n := by
      rw [hcs] at h4
      exact (Nat.eq_of_mul_eq_mul_right hsz h4).symm
    subst hn'
    obtain ⟨inf, hi, hzz, hsize, hbytes⟩ := sz_parts (h := hb)
    have hset : L.set i (.row (.slice p' n' cap) e sz cs) = L := by
      apply List.ext_getElem?
      intro j
      by_cases hij : i = j
      · subst hij
        rw [List.getElem?_set_self (List.getElem?_eq_some_iff.1 hL).1, hL]
      · rw [List.getElem?_set_ne hij]
    refine does_builtin (vs := [.slice p' n' cap, .slice p 0 c]) (by simp [evs, hx, hy]) (r := .slice p' n' cap) (w' := w) ?_ (k p' cap w h5 h6 (by rw [Nat.add_zero, List.append_nil, hset]; exact hm))
    intro _
    cases p' <;> cases p <;> simp [builtin, Builtin.append_, run_underlying hs.out, sizeOf, typeInfo, hi, Builtin.lenOf, Builtin.firstCells, h5, loadCells, loadCellsFrom, storeCells]
  · rcases hat with h | ⟨q, rfl, hat⟩
    · exact absurd h hm0
    · exact does_appS i hm hx hy hL hsz hcs hl hat ho hby h63 k
theorem splice_move {A M V S : List Value} {sz : Nat} (hV : V.length = sz) (hm : sz ≤ M.length) : splice (A ++ (M ++ (V ++ S))) (A.length + sz) M = A ++ (M.take sz ++ (M ++ S)) := by
  rw [splice_eq _ _ _ (by simp; omega)]
  have h1 : (A ++ (M ++ (V ++ S))).take (A.length + sz) = A ++ M.take sz := by
    rw [List.take_append, List.take_of_length_le (by omega), Nat.add_sub_cancel_left, List.take_append_of_le_length hm]
  have h2 : (A ++ (M ++ (V ++ S))).drop (A.length + sz + M.length) = S := by
    have e : A.length + sz + M.length = (A ++ (M ++ V)).length := by simp; omega
    rw [e, show A ++ (M ++ (V ++ S)) = (A ++ (M ++ V)) ++ S by simp, List.drop_left]
  rw [h1, h2, List.append_assoc, List.append_assoc]
/-- a part of a block is copied one element further on -/
theorem does_copyB (i : Nat) {e b o o' dl dc sl sc b_ s m : Nat} {z : Value} {A M V S : List Value} {T : TypeId} [hs : SliceT P t e] [Sz P e z s b_] (hm : Mem W0 X B L w) (hx : ev E x = some (.slice (some ⟨b, o, none⟩) dl dc)) (hy : ev E y = some (.slice (some ⟨b, o', none⟩) sl sc))
    (hL : L[i]? = some (.blk b (.cells (A ++ (M ++ (V ++ S))).toArray T (0, 0)))) (hA : A.length = o') (ho : o = o' + s) (hM : M.length = m * s) (hV : V.length = s) (hle : s ≤ M.length) (hmin : Nat.min sl dl = m) (ones : ∀ u ∈ M, u.oneCell' = true)
    (k : ∀ w', Mem W0 X B (L.set i (.blk b (.cells (A ++ (M.take s ++ (M ++ S))).toArray T (0, 0)))) w' → Φ (.int .i64 m) w') :
    Does P (.call { callee := .builtin .copy, args := [x, y].toArray, argTypes := [t, t].toArray }) ty E w Φ := by
  subst hA ho
  obtain ⟨w', hr, hg, hos, ht, hu, hsz, hc⟩ := run_storeCells (P := P) M _ (A.length + s) 0 (mem_idx hm hL) (by simp; omega) ones
  rw [Nat.add_zero, splice_move hV hle] at hg
  have hload : (loadCells ⟨b, A.length, none⟩ (m * s)).run P w = .ok M.toArray w := by
    have := run_loadCells_list (P := P) w ⟨b, A.length, none⟩ M (fun j v hj => by
      rw [show (⟨b, A.length, none⟩ : Addr).add j = ⟨b, A.length + j, none⟩ from add_add _ 0 j rfl]
      refine own_cell (mem_idx hm hL) ?_
      rw [List.getElem?_append_right (by omega), Nat.add_sub_cancel_left, List.getElem?_append_left (List.getElem?_eq_some_iff.1 hj).1]
      exact hj)
    rwa [hM] at this
  have hz : (Builtin.copy_ #[t, t] ty #[.slice (some ⟨b, A.length + s, none⟩) dl dc, .slice (some ⟨b, A.length, none⟩) sl sc]).run P w = .ok (.int .i64 m) w' := by
    simp [Builtin.copy_, run_underlying hs.out, run_size (P := P) (t := e), Builtin.lenOf, Builtin.firstCells, hmin, hload, hr, goInt]
  refine does_builtin (vs := [.slice (some ⟨b, A.length + s, none⟩) dl dc, .slice (some ⟨b, A.length, none⟩) sl sc]) (w' := w') (by simp [evs, hx, hy]) (fun consts => ?_) (k w' (hm.update i hL hos ht hu (Nat.le_of_eq hsz.symm) hg (fun c hcb _ => hc c hcb)))
  simp [builtin, hz]
end
/-- a call that takes some of one's own and gives others: whatever else one owns stays -/
structure FunL (P : Program) (f : FuncId) (vs : List Value) (L0 : List Own) (pre : Heap → Prop) (R : Value → List Own → Prop) : Prop where
  out : ∀ W0 X B L w, pre B → Mem W0 X B (L0 ++ L) w → Calls P f vs.toArray w fun e w' => ∃ v L', e = .returned v ∧ R v L' ∧ Mem W0 X B (L' ++ L) w'
section
variable {P : Program} {E : Env} {w W0 : World} {X : List Nat} {B : Heap} {L : List Own} {Φ : Value → World → Prop} {ty t : TypeId} {x y : Operand}
theorem does_funL {f : FuncId} {args : List Operand} {ats : Array TypeId} {vs : List Value} {L0 : List Own} {pre : Heap → Prop} {R : Value → List Own → Prop} (hm : Mem W0 X B (L0 ++ L) w) (hen : Enters P f) (hx : evs E args = some vs) (hc : FunL P f vs L0 pre R) (hp : pre B)
    (k : ∀ v L' w', R v L' → Mem W0 X B (L' ++ L) w' → Φ v w') : Does P (.call { callee := .value (.func f), args := args.toArray, argTypes := ats }) ty E w Φ :=
  does_call hen hx ((hc.out W0 X B L w hp hm).mono fun _ w' ⟨v, L', he, hR, hn⟩ => ⟨v, he, k v L' w' hR hn⟩)
theorem enterFunL {f : FuncId} {fn : Func} {c : Code} {vs : List Value} {n : Nat} {L0 : List Own} {pre : Heap → Prop} {R : Value → List Own → Prop} (hf : P.funcs[f]? = some fn) (hb : fn.body = some c) (hn : fn.ntmps = n) (hl : Nat.ble vs.length n = true)
    (h : ∀ W0 X B L w a, pre B → Mem W0 X B (L0 ++ L) w → Holds (enumE 0 vs) n a → CW P c (Post P fn fun u w' => ∃ L', R u L' ∧ Mem W0 X B (L' ++ L) w') a w) : FunL P f vs L0 pre R := by
  refine ⟨fun W0 X B L w hp hm => ?_⟩
  refine (enter (R := fun u w' => ∃ L', R u L' ∧ Mem W0 X B (L' ++ L) w') hf hb hn hl (fun a ha => h W0 X B L w a hp hm ha)).mono ?_
  rintro e w' ⟨u, rfl, L', hR, hm⟩
  exact ⟨u, L', rfl, hR, hm⟩
end
/-- a struct out of a row of one's own -/
theorem does_loadRA {P : Program} {E : Env} {w W0 : World} {X : List Nat} {B : Heap} {L : List Own} {Φ : Value → World → Prop} {ty t T : TypeId} {x : Operand} {α : Type} {enc : α → List Value} {s : Nat} (i : Nat) {q : Addr} {n cap j : Nat} {xs : List α} [Aggr P t s] (hm : Mem W0 X B L w) (hx : ev E x = some (.pointer (some (q.add (j * s)))))
    (hL : L[i]? = some (.row (.slice (some q) n cap) T s (xs.map enc).flatten)) (hf : ∀ x, (enc x).length = s) (hsz : 0 < s) (hj : j < xs.length) (k : Φ (.agg (enc xs[j]).toArray) w) : Does P (.load t x) ty E w Φ := by
  obtain ⟨a, ha, hat⟩ := (row_sl i hm hL hf hsz).at hj
  cases ha
  exact does_load_of hx (run_loadVarA (hf _) (fun _ _ hv => hat.cell (fun _ _ h => h) hv)) k
end Go.Proofs.Ytnclbllhflinfaa.St
