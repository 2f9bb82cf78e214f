/-
  The text of a node of a program, and how long it is. Plain.
-/
import Derived.Test.YtgmonjghbjaadaaGreatDoorLVpr
import Derived.Test.YtgmonjghbjaadaaGreatDoorJ9
import Derived.Test.YtgmonjghbjaadaaGreatDoorJ3
import Derived.RegionTactic
import Derived.OrdersHeld

section
set_option linter.unusedSimpArgs false
set_option linter.unusedVariables false
namespace Go.Proofs.YtgmonjghbjaadaaGreatDoor.St
open Go.RowKit
def symT (op : Int) : List UInt8 := if op = 4 then [43] else if op = 5 then [45] else if op = 6 then [42] else [47]
/-- a node's text, given its arguments' -/
noncomputable def nodeT (x : PNode) (w : List (List UInt8)) : List UInt8 :=
  if x.op = 1 then numT x.num else if x.op = 2 then x.name.data.toList else if x.op = 3 then [40, 45] ++ w.getD 0 [] ++ [41]
  else if x.op = 8 then x.name.data.toList ++ [40] ++ Lib.join w [44, 32] ++ [41]
  else [40] ++ w.getD 0 [] ++ [32] ++ symT x.op ++ [32] ++ w.getD 1 [] ++ [41]
/-- the texts of the first k nodes -/
noncomputable def textsT (ns : List PNode) : Nat → List (List UInt8)
  | 0 => []
  | k + 1 => textsT ns k ++ [match ns[k]? with
    | some x => nodeT x (x.args.map fun a => (textsT ns k).getD a.toNat [])
    | none => []]
theorem textsT_len (ns : List PNode) : ∀ k, (textsT ns k).length = k
  | 0 => rfl
  | k + 1 => by rw [textsT, List.length_append, textsT_len ns k]; rfl
theorem textsT_get (ns : List PNode) {m k : Nat} (h : m < k) : (textsT ns k).getD m [] = (textsT ns (m + 1)).getD m [] := by
  induction k with
  | zero => omega
  | succ k ih =>
    by_cases hm : m = k
    · rw [hm]
    · rw [textsT, List.getD_eq_getElem?_getD, List.getElem?_append_left (by rw [textsT_len]; omega), ← List.getD_eq_getElem?_getD]
      exact ih (by omega)
noncomputable def txT (ns : List PNode) (k : Nat) : List UInt8 := (textsT ns (k + 1)).getD k []
theorem txT_eq {ns : List PNode} {k : Nat} {x : PNode} (h : ns[k]? = some x) (ha : ∀ a ∈ x.args, 0 ≤ a ∧ a < (k : Int)) : txT ns k = nodeT x (x.args.map fun a => txT ns a.toNat) := by
  rw [txT, textsT, List.getD_eq_getElem?_getD, List.getElem?_append_right (by rw [textsT_len]; exact Nat.le_refl _), textsT_len, Nat.sub_self, h]
  simp only [List.getElem?_cons_zero, Option.getD_some]
  congr 1
  refine List.map_congr_left fun a hm => ?_
  have := ha a hm
  exact textsT_get ns (by omega)
/-- a sum over the first k numbers -/
def sumT (f : Nat → Nat) : Nat → Nat
  | 0 => 0
  | k + 1 => sumT f k + f k
theorem sumT_add (f g : Nat → Nat) : ∀ k, sumT (fun m => f m + g m) k = sumT f k + sumT g k
  | 0 => rfl
  | k + 1 => by simp only [sumT, sumT_add f g k]; omega
theorem sumT_congr {f g : Nat → Nat} : ∀ {k : Nat}, (∀ m, m < k → f m = g m) → sumT f k = sumT g k
  | 0, _ => rfl
  | k + 1, h => by simp only [sumT]; rw [sumT_congr fun m hm => h m (by omega), h k (by omega)]
theorem sumT_zero : ∀ k, sumT (fun _ => 0) k = 0
  | 0 => rfl
  | k + 1 => by simp only [sumT, sumT_zero k]
theorem sumT_one (L : Nat → Nat) (a : Nat) : ∀ k, a < k → sumT (fun m => if m = a then L m else 0) k = L a
  | 0, h => absurd h (by omega)
  | k + 1, h => by
    simp only [sumT]
    by_cases hk : a = k
    · subst hk
      rw [sumT_congr (g := fun _ => 0) fun m hm => if_neg (by omega), sumT_zero, if_pos rfl]
      omega
    · rw [sumT_one L a k (by omega), if_neg (by omega)]
      rfl
theorem sumT_args (L : Nat → Nat) (k : Nat) : ∀ args : List Int, (∀ a ∈ args, 0 ≤ a ∧ a < (k : Int)) → sumT (fun m => args.count (m : Int) * L m) k = (args.map fun a => L a.toNat).sum
  | [], _ => by simp [sumT_zero]
  | a :: r, h => by
    have ha := h a (List.mem_cons_self ..)
    obtain ⟨j, rfl⟩ : ∃ j : Nat, a = (j : Int) := ⟨a.toNat, by omega⟩
    rw [sumT_congr (g := fun m => r.count (m : Int) * L m + if m = j then L m else 0) fun m _ => ?_, sumT_add, sumT_args L k r fun x hx => h x (List.mem_cons_of_mem _ hx), sumT_one L j k (by omega)]
    · simp only [List.map_cons, List.sum_cons, Int.toNat_natCast]
      omega
    · rw [List.count_cons]
      by_cases hmj : m = j
      · subst hmj
        simp [Nat.add_mul]
      · have : ¬ ((j : Int) == (m : Int)) = true := by simp; omega
        rw [if_neg hmj, if_neg this]
        rfl
theorem sumT_ge (f : Nat → Nat) : ∀ {k m : Nat}, m < k → f m ≤ sumT f k
  | k + 1, m, h => by
    simp only [sumT]
    by_cases hm : m = k
    · subst hm
      omega
    · have := sumT_ge f (k := k) (m := m) (by omega)
      omega
theorem fracT_len {r : Int} (h : 0 ≤ r ∧ r ≤ 255) : (fracT r).length ≤ 9 := by
  have hb : ∀ f : Int, 0 ≤ f → f ≤ 1000000 → (Lib.itoa f).length ≤ 7 := fun f h0 h1 => itoa_small (k := 7) h0 (by omega) (by omega)
  have hp : ∀ (k : Nat) (f : Int), k ≤ 3 → 0 ≤ f → f ≤ 1000000 → (padT k f).length ≤ 9 := fun k f hk h0 h1 => by
    have := hb f h0 h1
    rw [padT, List.length_append, List.length_replicate]
    omega
  unfold fracT
  split
  · exact hp _ _ (by omega) (by omega) (by omega)
  · split
    · exact hp _ _ (by omega) (by omega) (by omega)
    · exact hp _ _ (by omega) (by omega) (by omega)
theorem numT_len (n : Int) : (numT n).length ≤ 16 := by
  unfold numT
  split
  · rename_i h
    have h1 := itoa_small (f := n / 256) (k := 6) (by omega) (by omega) (by omega)
    split
    · omega
    · have h2 := fracT_len (r := n % 256) (by omega)
      simp only [List.length_append, List.length_singleton]
      omega
  · exact Nat.zero_le _
theorem le_sumN : ∀ {l : List Nat} {a : Nat}, a ∈ l → a ≤ l.sum
  | b :: l, a, h => by
    rw [List.sum_cons]
    rcases List.mem_cons.1 h with rfl | h
    · omega
    · have := le_sumN h
      omega
theorem lens_map (w : List (List UInt8)) : Lib.lens w = (w.map List.length).sum := rfl
theorem nodeT_len {x : PNode} {w : List (List UInt8)} (hv : vNode x) (hw : w.length = x.args.length) : (nodeT x w).length ≤ 40 + (w.map List.length).sum := by
  obtain ⟨h1, h2, h3⟩ := hv
  have hn : x.name.data.toList.length ≤ 8 := by
    rw [Array.length_toList]
    rcases h1 with ⟨_, h⟩ | ⟨_, h⟩
    · exact h.1.2
    · rw [h]
      exact Nat.zero_le _
  have g : ∀ i, (w.getD i []).length ≤ (w.map List.length).sum := fun i => by
    rw [List.getD_eq_getElem?_getD]
    cases h : w[i]? with
    | none => exact Nat.zero_le _
    | some y => exact le_sumN (List.mem_map_of_mem (List.mem_of_getElem? h))
  unfold nodeT
  split
  · have := numT_len x.num
    omega
  split
  · omega
  split
  · have := g 0
    simp only [List.length_append, List.length_cons, List.length_nil]
    omega
  split
  · rename_i h8
    have hj : (Lib.join w [44, 32]).length ≤ 4 + (w.map List.length).sum := by
      cases w with
      | nil => simp [Lib.join_nil]
      | cons y q =>
        rw [Lib.join_length, lens_map]
        have : q.length ≤ 2 := by
          unfold arOk at h3
          simp only [List.length_cons] at hw
          omega
        simp only [List.length_cons, List.length_nil]
        omega
    simp only [List.length_append, List.length_cons, List.length_nil]
    omega
  · have hs : (symT x.op).length = 1 := by
      unfold symT
      split
      · rfl
      split
      · rfl
      split <;> rfl
    have h2w : w.length = 2 := by
      unfold arOk at h3
      omega
    obtain ⟨a, b, rfl⟩ : ∃ a b, w = [a, b] := by
      match w, h2w with
      | [a, b], _ => exact ⟨a, b, rfl⟩
    simp only [List.length_append, List.length_cons, List.length_nil, hs, List.getD_cons_zero, List.getD_cons_succ, List.map_cons, List.map_nil, List.sum_cons, List.sum_nil]
    omega
theorem argsOk_mem {xs : List Int} {i : Nat} (h : argsOk xs i) : ∀ a ∈ xs, 0 ≤ a ∧ a < (i : Int) := fun a ha => by
  obtain ⟨j, hj, rfl⟩ := List.mem_iff_getElem.1 ha
  have := h j hj
  rw [List.getD_eq_getElem?_getD, List.getElem?_eq_getElem hj, Option.getD_some] at this
  omega
theorem refs_take (ns : List PNode) {k : Nat} {x : PNode} (h : ns[k]? = some x) : refsN (ns.take (k + 1)) = refsN (ns.take k) ++ x.args := by
  unfold refsN
  rw [List.take_add_one, h, List.map_append, List.flatten_append]
  simp
theorem refs_le {ns : List PNode} {k m : Nat} : (refsN (ns.take k)).count (m : Int) ≤ (refsN ns).count (m : Int) := by
  have : refsN ns = refsN (ns.take k) ++ refsN (ns.drop k) := by
    unfold refsN
    rw [← List.flatten_append, ← List.map_append, List.take_append_drop]
  rw [this, List.count_append]
  omega
theorem refs_lt {ns : List PNode} {ys : List TAssignment} (hv : vProg ns ys) : ∀ k, k ≤ ns.length → ∀ a ∈ refsN (ns.take k), a < (k : Int)
  | 0, _, a, ha => absurd ha (by simp [refsN])
  | k + 1, hk, a, ha => by
    have hx : ns[k]? = some ns[k] := List.getElem?_eq_getElem (by omega)
    rw [refs_take ns hx] at ha
    rcases List.mem_append.1 ha with ha | ha
    · have := refs_lt hv k (by omega) a ha
      omega
    · have := argsOk_mem (hv.nodes k _ hx).1 a ha
      omega
/-- what is not used by the first k nodes is short altogether -/
theorem open_len {ns : List PNode} {ys : List TAssignment} (hv : vProg ns ys) : ∀ k, k ≤ ns.length → sumT (fun m => (1 - (refsN (ns.take k)).count (m : Int)) * (txT ns m).length) k ≤ 40 * k
  | 0, _ => Nat.le_refl _
  | k + 1, hk => by
    have hx : ns[k]? = some ns[k] := List.getElem?_eq_getElem (by omega)
    obtain ⟨ha, hn⟩ := hv.nodes k _ hx
    have ham := argsOk_mem ha
    have ih := open_len hv k (by omega)
    have hT := txT_eq hx ham
    have hL : (txT ns k).length ≤ 40 + (ns[k].args.map fun a => (txT ns a.toNat).length).sum := by
      rw [hT]
      have := nodeT_len (w := ns[k].args.map fun a => txT ns a.toNat) hn (List.length_map ..)
      rwa [List.map_map] at this
    have hA := sumT_args (fun m => (txT ns m).length) k ns[k].args ham
    have hone : ∀ m, m < ns.length → (refsN (ns.take (k + 1))).count (m : Int) ≤ 1 := fun m hm => by
      have h1 := hv.once m hm
      have h2 := refs_le (ns := ns) (k := k + 1) (m := m)
      unfold cnt at h1
      rw [List.count_append] at h1
      omega
    have hsplit : sumT (fun m => (1 - (refsN (ns.take k)).count (m : Int)) * (txT ns m).length) k = sumT (fun m => (1 - (refsN (ns.take (k + 1))).count (m : Int)) * (txT ns m).length) k + sumT (fun m => ns[k].args.count (m : Int) * (txT ns m).length) k := by
      rw [← sumT_add]
      refine sumT_congr fun m hm => ?_
      have h1 := hone m (by omega)
      rw [refs_take ns hx, List.count_append] at h1 ⊢
      rw [← Nat.add_mul]
      congr 1
      omega
    have h0 : (refsN (ns.take (k + 1))).count (k : Int) = 0 := by
      refine List.count_eq_zero.2 fun hm => ?_
      rw [refs_take ns hx] at hm
      rcases List.mem_append.1 hm with hm | hm
      · have := refs_lt hv k (by omega) _ hm
        omega
      · have := ham _ hm
        omega
    show sumT (fun m => (1 - (refsN (ns.take (k + 1))).count (m : Int)) * (txT ns m).length) k + (1 - (refsN (ns.take (k + 1))).count (k : Int)) * (txT ns k).length ≤ 40 * (k + 1)
    rw [h0, Nat.sub_zero, Nat.one_mul]
    omega
theorem tx_len {ns : List PNode} {ys : List TAssignment} (hv : vProg ns ys) {k : Nat} (hk : k < ns.length) : (txT ns k).length ≤ 40 * (k + 1) := by
  have h1 := open_len hv (k + 1) hk
  have h2 := sumT_ge (fun m => (1 - (refsN (ns.take (k + 1))).count (m : Int)) * (txT ns m).length) (k := k + 1) (m := k) (by omega)
  have h0 : (refsN (ns.take (k + 1))).count (k : Int) = 0 := by
    have hx : ns[k]? = some ns[k] := List.getElem?_eq_getElem hk
    refine List.count_eq_zero.2 fun hm => ?_
    rw [refs_take ns hx] at hm
    rcases List.mem_append.1 hm with hm | hm
    · have := refs_lt hv k (by omega) _ hm
      omega
    · have := argsOk_mem (hv.nodes k _ hx).1 _ hm
      omega
  simp only [h0, Nat.sub_zero, Nat.one_mul] at h2
  omega
end Go.Proofs.YtgmonjghbjaadaaGreatDoor.St
end

section
/-
  Regions that draw their order, walked order by order: for short ones with stores in them.
-/
set_option linter.unusedSimpArgs false
set_option linter.unusedVariables false
namespace Go.Proofs.YtgmonjghbjaadaaGreatDoor.St
open Go.RowKit
section
variable {P : Program} {Q : Exit → Act → World → Prop} {a : Act} {w W0 : World} {X : List Nat} {B : Heap} {L : List Own} {l : List Oper} {E : Env} {n fuel : Nat} {listed : Array Bool} {i j k3 d : Nat} {op : Op} {ty : TypeId} {pos : String} {af : Array Edge} {g : Option (Nat × Bool)}
structure AW (P : Program) (l : List Oper) (Q : Exit → Act → World → Prop) (fuel : Nat) (listed : Array Bool) (a : Act) (w : World) : Prop where
  out : wpAny P .any l.toArray Q fuel listed a w
structure AO (P : Program) (l : List Oper) (Q : Exit → Act → World → Prop) (fuel : Nat) (listed : Array Bool) (i : Nat) (a : Act) (w : World) : Prop where
  out : wpOp P l.toArray Q i (wpAny P .any l.toArray Q fuel (listed.setIfInBounds i true)) a w
end
end Go.Proofs.YtgmonjghbjaadaaGreatDoor.St
end

section
/-
  Regions that draw their order, walked with what only reads taken first, in the worlds in which named blocks hold.
-/
set_option linter.unusedSimpArgs false
set_option linter.unusedVariables false
namespace Go.Proofs.YtgmonjghbjaadaaGreatDoor.St
open Go.RowKit
/-- an operation that hands over a value or stops, and calls nothing -/
def quietOp : Op → Bool
  | .move _ | .assign _ | .pick _ _ _ | .load _ _ | .fieldAddr _ _ _ | .field _ _ _ | .binOp _ _ _ _ _ | .unOp _ _ _ | .index _ _ _ | .indexAddr _ _ _ | .convert _ _ _ | .build _ _ | .extract _ _ | .slice _ _ _ _ _ | .makeFunc _ _ _ | .lookup _ _ _ _ => true
  | _ => false
theorem val_of {P : Program} {s : Sem Value} {w : World} {n : Next} {w' : World} (h : (do pure (.value (← s)) : Sem Next).run P w = .ok n w') : ∃ v, n = .value v := by
  simp only [Sem.run_bind] at h
  cases hs : Sem.run P s w with
  | ok v w2 =>
    rw [hs] at h
    simp only [Result.andThen_ok, Sem.run_pure, Result.ok.injEq] at h
    exact ⟨v, h.1.symm⟩
  | halt x w2 =>
    rw [hs] at h
    simp only [Result.andThen] at h
    cases h
theorem quiet_val {P : Program} {op : Op} {ty : TypeId} {ρ : Operand → Value} {w w' : World} {n : Next} (hq : quietOp op = true) (h : (execOp ρ (mk op ty)).run P w = .ok n w') : ∃ v, n = .value v := by
  cases op <;> first | cases hq | skip
  all_goals
    simp only [execOp, mk] at h
    first
      | exact val_of h
      | (simp only [Sem.run_pure, Result.ok.injEq] at h; exact ⟨_, h.1.symm⟩)
      | (simp only [Sem.run_bind, Sem.run_pure] at h
         generalize Sem.run P _ w = r at h
         cases r with
         | ok b w2 => simp only [Result.andThen_ok, Result.ok.injEq] at h; exact ⟨_, h.1.symm⟩
         | halt x w2 => simp only [Result.andThen] at h; cases h)
theorem does_quiet {P : Program} {op : Op} {ty : TypeId} {E : Env} {w : World} {v : Value} {ρ : Operand → Value} (hq : quietOp op = true) (hρ : Sat E ρ) (h : Does P op ty E w (fun v' w' => v' = v ∧ w' = w)) : (execOp ρ (mk op ty)).run P w = .ok (.value v) w := by
  have := h.out ρ hρ
  cases hr : (execOp ρ (mk op ty)).run P w with
  | ok n w' =>
    rw [hr] at this
    obtain ⟨u, rfl⟩ := quiet_val hq hr
    obtain ⟨rfl, rfl⟩ := this
    rfl
  | halt x w' => rw [hr] at this; simp only [upon] at this
section
variable {P : Program} {K : Act → World → Prop} {a : Act} {w W0 : World} {X : List Nat} {B : Heap} {L Ls : List Own} {l : List Oper} {E : Env} {n fuel : Nat} {listed : Array Bool} {d : Nat} {op : Op} {ty : TypeId} {pos : String} {af : Array Edge} {g : Option (Nat × Bool)} {S : World → Prop}
abbrev nQ (K : Act → World → Prop) : Exit → Act → World → Prop := fun e a w => e = .normal ∧ K a w
structure HW (P : Program) (l : List Oper) (K : Act → World → Prop) (S : World → Prop) (fuel : Nat) (listed : Array Bool) (a : Act) (w : World) : Prop where
  out : wpAnyH P .any l.toArray (nQ K) S fuel listed a w
structure HO (P : Program) (l : List Oper) (K : Act → World → Prop) (S : World → Prop) (fuel : Nat) (listed : Array Bool) (i : Nat) (a : Act) (w : World) : Prop where
  out : wpOp P l.toArray (nQ K) i (fun a' w' => S w' ∧ wpAnyH P .any l.toArray (nQ K) S fuel (listed.setIfInBounds i true) a' w') a w
theorem hw_region {Q : Exit → Act → World → Prop} {id : Nat} (Ls : List Own) (hmix : P.follows .mixedOrders = true) (hm : Mem W0 X B L w) (k : ∀ w', Mem W0 X B L w' → HW P l (fun a w => Cont Q .normal a w) (Mem W0 X B Ls) l.length (Array.replicate l.length false) a w') : CW P (Code.region id l.toArray true) Q a w := by
  refine ⟨Code.wp_mono (fun e a w q => by obtain ⟨rfl, hs⟩ := q; exact hs.out) (wp_region_any (Q := nQ (fun a w => Cont Q .normal a w)) hmix ?_)⟩
  have := wpAny_of_held _ _ _ _ (k _ (hm.ext (ext_drew w))).out
  simpa using this
theorem hw_take {v : Value} (i : Nat) (hi : l[i]? = some ⟨some d, op, ty, pos, af, g⟩) (hs : Region.noSelect l.toArray = true) (hf : Region.free .any l.toArray listed i = true) (hr : (Region.ready .any l.toArray listed).contains i = true)
    (hq : quietOp op = true) (hg : wantedE l E g = some true) (hd : Nat.blt d n = true) (h : Holds E n a) (hS : S w) (hy : ∀ w, S w → Does P op ty E w (fun v' w' => v' = v ∧ w' = w))
    (k : ∀ a', Holds ((d, v) :: E) n a' → HW P l K S fuel (listed.setIfInBounds i true) a' w) : HW P l K S (fuel + 1) listed a w := by
  refine ⟨wpAnyH_take (i := i) (oi := ⟨some d, op, ty, pos, af, g⟩) (v := v) (by simpa using hi) hs hf hr (fun _ _ _ q => by cases q.1) (.inl ⟨wanted_of h hg, fun w hw => ?_⟩) hS (k _ (h.put hd v)).out⟩
  rw [execOp_mk]
  exact does_quiet hq h.sat (hy w hw)
theorem hw0 (hr : Region.ready .any l.toArray listed = []) (h : K a w) : HW P l K S 0 listed a w := ⟨hr, rfl, h⟩
theorem hw1 (i : Nat) (hr : Region.ready .any l.toArray listed = [i]) (h : HO P l K S fuel listed i a w) : HW P l K S (fuel + 1) listed a w :=
  ⟨wpAnyH_all hr (by simp) (fun x hx => by simp only [List.mem_singleton] at hx; subst hx; exact h.out)⟩
theorem ho_op {i : Nat} (hi : l[i]? = some ⟨some d, op, ty, pos, af, g⟩) (hg : wantedE l E g = some true) (hd : Nat.blt d n = true) (h : Holds E n a)
    (k : Does P op ty E w (fun v w' => ∀ a', Holds ((d, v) :: E) n a' → S w' ∧ HW P l K S fuel (listed.setIfInBounds i true) a' w')) : HO P l K S fuel listed i a w := by
  refine ⟨wpOp_step (o := ⟨some d, op, ty, pos, af, g⟩) (by simpa using hi) fun K hK => ?_⟩
  rw [wanted_of (o := ⟨some d, op, ty, pos, af, g⟩) h hg, if_pos rfl]
  exact oper_of_upon (upon_mono (fun v w' hv => hK _ _ ⟨(hv _ (h.put hd v)).1, (hv _ (h.put hd v)).2.out⟩) (k.out _ h.sat))
end
end Go.Proofs.YtgmonjghbjaadaaGreatDoor.St
end
