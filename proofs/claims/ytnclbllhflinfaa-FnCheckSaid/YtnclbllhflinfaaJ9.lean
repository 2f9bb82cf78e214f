/-
  Slices made in a drawn region; facts of new memory carried out of one.
-/
import Derived.Test.YtnclbllhflinfaaStMap
import Derived.Test.YtnclbllhflinfaaLChs

section
set_option linter.unusedSimpArgs false
set_option linter.unusedVariables false
namespace Go.Proofs.Ytnclbllhflinfaa.St
open Go.RowKit
section
variable {P : Program} {l : List Oper} {rs : List Rs} {g : Option (Nat × Bool)} {E : Env} {w W0 : World} {X : List Nat} {B : Heap} {L : List Own} {D : Al → World → Prop} {ty t : TypeId} {x y : Operand}
theorem vc_makeSlice {e n bytes sz : Nat} {z : Value} {zs : List Value} [hs : SliceT P t e] [hz : ZeroC P e zs] [hb : Sz P e z sz bytes] (hby : bytes * n ≤ 281474976710656) (h63 : n ≤ 9223372036854775807) (hg : wantedE l E g = some true)
    {j j' : IntKind} (hx : ev E x = some (.int j n)) (hy : ev E y = some (.int j' n)) :
    OpVC P l rs D g (.makeSlice t x y) ty (.own (fun b => .slice (some ⟨b, 0, none⟩) n n) (.cells (rep n zs).toArray e)) E w :=
  vc_own hg fun ρ hρ w => by
    obtain ⟨inf, hi, hzz, hsize, hbytes⟩ := sz_parts (h := hb)
    obtain ⟨i2, hi2, z2, hz2, hzc, hsz2⟩ := hz.out
    obtain rfl : inf = i2 := Option.some.inj (hi.symm.trans hi2)
    obtain rfl : z = z2 := Option.some.inj (hzz.symm.trans hz2)
    have hb' : (inf.bytes : Int) * (n : Int) ≤ 281474976710656 := by
      rw [hbytes]
      have h : ((bytes * n : Nat) : Int) ≤ 281474976710656 := by omega
      rwa [Int.natCast_mul] at h
    have hr := run_make (P := P) w t e inf z hs.out hi hzz j j' n n (by omega) (Int.le_refl _) hb' (by omega)
    simp only [execOp, mk, hρ _ _ hx, hρ _ _ hy, Sem.run_bind, hr, Result.andThen_ok, Sem.run_pure, Int.toNat_natCast]
    rw [hzc, hsz2, madeCells_eq]
end
def ownRow : Own → Bool
  | .blk _ o => isRow o
  | .row _ _ _ _ => false
/-- objects that are no rows lie beside whatever rows one owns -/
theorem outL {W0 w : World} {X : List Nat} {B : Heap} {L : List Own} (hm : Mem W0 X B L w) (hL : L.all ownRow = true) :
    ∃ B', Heap.le B B' ∧ Mem W0 X B' L w ∧ (∀ b0 o0, w.heap[b0]? = some o0 → isRow o0 = false → B' b0 = some o0) := by
  refine ⟨fun k => if k ∈ L.filterMap Own.dom then none else w.heap[k]?, fun k o hk => ?_, ⟨hm.os, hm.tape, hm.output, hm.size, hm.block, fun k o hk => ?_, hm.own, hm.fresh, fun x hx k hk => ?_, hm.nodup⟩, fun b0 o0 h0 hr => ?_⟩
  · have hne : k ∉ L.filterMap Own.dom := fun e => by
      obtain ⟨x, hx, hxk⟩ := List.mem_filterMap.1 e
      rw [hm.apart x hx k hxk] at hk
      cases hk
    show (if k ∈ L.filterMap Own.dom then none else w.heap[k]?) = some o
    rw [if_neg hne]
    exact hm.base k o hk
  · have hk2 : (if k ∈ L.filterMap Own.dom then none else w.heap[k]?) = some o := hk
    split at hk2
    · cases hk2
    · exact hk2
  · have : k ∈ L.filterMap Own.dom := List.mem_filterMap.2 ⟨x, hx, hk⟩
    show (if k ∈ L.filterMap Own.dom then none else w.heap[k]?) = none
    rw [if_pos this]
  · have hne : b0 ∉ L.filterMap Own.dom := fun e => by
      obtain ⟨x, hx, hxk⟩ := List.mem_filterMap.1 e
      have hr2 := List.all_eq_true.1 hL x hx
      have hh := hm.own x hx
      cases x with
      | row v T sz cs => cases hr2
      | blk b o =>
        simp only [Own.dom, Option.some.injEq] at hxk
        subst hxk
        simp only [Own.holds] at hh
        rw [hh] at h0
        cases h0
        simp only [ownRow] at hr2
        rw [hr2] at hr
        cases hr
    show (if b0 ∈ L.filterMap Own.dom then none else w.heap[b0]?) = some o0
    rw [if_neg hne]
    exact h0
theorem dB_self (b : Bool) : dB (b = true) = b := by
  cases b
  · exact bF (by simp)
  · exact bT rfl
end Go.Proofs.Ytnclbllhflinfaa.St
end

section
/-
  Which nodes of a checked program are uniform.
-/
set_option linter.unusedSimpArgs false
set_option linter.unusedVariables false
namespace Go.Proofs.Ytnclbllhflinfaa.St
open Go.RowKit
abbrev sT : ByteArray := ⟨#[116]⟩
abbrev sTex : ByteArray := ⟨#[116, 101, 120]⟩
inductive Un (ns : List PNode) (ys : List TAssignment) : Nat → Bool → Prop where
  | t {m : Nat} {x : PNode} (h : ns[m]? = some x) (ho : x.op = 2) (hn : x.name = sT) : Un ns ys m true
  | var {m : Nat} {x : PNode} (h : ns[m]? = some x) (ho : x.op = 2) (hv : isVar x.name) (hn : ¬ x.name = sT) : Un ns ys m false
  | name {m v r : Nat} {x : PNode} {y : TAssignment} {b : Bool} (h : ns[m]? = some x) (ho : x.op = 2) (hv : ¬ isVar x.name) (hf : firstA ys ys.length x.name = some (v : Int)) (hy : ys[v]? = some y) (hr : y.2 = (r : Int)) (hu : Un ns ys r b) : Un ns ys m b
  | tex {m : Nat} {x : PNode} (h : ns[m]? = some x) (ho : x.op = 8) (hn : x.name = sTex) : Un ns ys m false
  | other {m : Nat} {x : PNode} (h : ns[m]? = some x) (h2 : ¬ x.op = 2) (h8 : ¬ (x.op = 8 ∧ x.name = sTex)) (f : Nat → Bool) (hf : ∀ j c : Nat, x.args[j]? = some (c : Int) → Un ns ys c (f j)) : Un ns ys m ((List.range x.args.length).all f)
theorem isVar_T : isVar sT := by unfold isVar; simp
theorem Un.det {ns : List PNode} {ys : List TAssignment} (hv : vProg ns ys) {m : Nat} {b : Bool} (h : Un ns ys m b) : ∀ {b'}, Un ns ys m b' → b = b' := by
  induction h with
  | t h ho hn =>
    intro b' h'
    cases h' with
    | t => rfl
    | var h1 h2 h3 h4 => rw [h] at h1; cases h1; exact absurd hn h4
    | name h1 h2 h3 => rw [h] at h1; cases h1; rw [hn] at h3; exact absurd isVar_T h3
    | tex h1 h2 => rw [h] at h1; first | done | (cases h1; omega)
    | other h1 h2 => rw [h] at h1; cases h1; exact absurd ho h2
  | var h ho hvv hn =>
    intro b' h'
    cases h' with
    | t h1 h2 h3 => rw [h] at h1; cases h1; exact absurd h3 hn
    | var => rfl
    | name h1 h2 h3 => rw [h] at h1; cases h1; exact absurd hvv h3
    | tex h1 h2 => rw [h] at h1; first | done | (cases h1; omega)
    | other h1 h2 => rw [h] at h1; cases h1; exact absurd ho h2
  | name h ho hvv hf hy hr hu ih =>
    intro b' h'
    cases h' with
    | t h1 h2 h3 => rw [h] at h1; cases h1; rw [h3] at hvv; exact absurd isVar_T hvv
    | var h1 h2 h3 => rw [h] at h1; cases h1; exact absurd h3 hvv
    | name h1 h2 h3 h4 h5 h6 h7 =>
      rw [h] at h1; cases h1
      rw [hf] at h4
      have e1 := Option.some.inj h4
      have e2 : ∀ {a b : Nat}, (a : Int) = b → a = b := fun e => by omega
      obtain rfl := e2 e1
      rw [hy] at h5
      cases h5
      rw [hr] at h6
      obtain rfl := e2 h6
      exact ih h7
    | tex h1 h2 => rw [h] at h1; first | done | (cases h1; omega)
    | other h1 h2 => rw [h] at h1; cases h1; exact absurd ho h2
  | tex h ho hn =>
    intro b' h'
    cases h' with
    | t h1 h2 => rw [h] at h1; first | done | (cases h1; omega)
    | var h1 h2 => rw [h] at h1; first | done | (cases h1; omega)
    | name h1 h2 => rw [h] at h1; first | done | (cases h1; omega)
    | tex => rfl
    | other h1 h2 h3 => rw [h] at h1; cases h1; exact absurd ⟨ho, hn⟩ h3
  | @other m x h h2 h8 f hf ih =>
    intro b' h'
    cases h' with
    | t h1 h3 => rw [h] at h1; cases h1; exact absurd h3 h2
    | var h1 h3 => rw [h] at h1; cases h1; exact absurd h3 h2
    | name h1 h3 => rw [h] at h1; cases h1; exact absurd h3 h2
    | tex h1 h3 h4 => rw [h] at h1; cases h1; exact absurd ⟨h3, h4⟩ h8
    | other h1 h3 h4 f' hf' =>
      rw [h] at h1; cases h1
      have key : ∀ j ∈ List.range x.args.length, f j = f' j := fun j hj => by
        have hj' := List.mem_range.1 hj
        obtain ⟨c, hc, _⟩ := args_nn hv h (List.getElem_mem hj')
        have hg : x.args[j]? = some (c : Int) := by rw [List.getElem?_eq_getElem hj', hc]
        exact ih j c hg (hf' j c hg)
      rw [Bool.eq_iff_iff, List.all_eq_true, List.all_eq_true]
      exact ⟨fun e j hj => by rw [← key j hj]; exact e j hj, fun e j hj => by rw [key j hj]; exact e j hj⟩
def GdU (ns : List PNode) (ys : List TAssignment) (us : List Bool) (m : Nat) : Prop := ∃ b : Bool, us[m]? = some b ∧ Un ns ys m b
theorem GdU.set {ns : List PNode} {ys : List TAssignment} {us : List Bool} {c : Nat} {b : Bool} (hc : c < us.length) (hu : Un ns ys c b) {m : Nat} (h : GdU ns ys us m ∨ m = c) : GdU ns ys (us.set c b) m := by
  by_cases hmc : m = c
  · subst hmc
    exact ⟨b, List.getElem?_set_self hc, hu⟩
  · obtain ⟨k', h1, h2⟩ := h.resolve_right hmc
    exact ⟨k', by rw [List.getElem?_set_ne fun e => hmc e.symm, h1], h2⟩
def allT (f : Nat → Bool) (j : Nat) : Bool := (List.range j).all f
theorem allT_succ (f : Nat → Bool) (j : Nat) : allT f (j + 1) = (allT f j && f j) := by simp [allT, List.range_succ]
theorem allT_congr {f g : Nat → Bool} {j : Nat} (h : ∀ i, i < j → f i = g i) : allT f j = allT g j := by
  unfold allT
  rw [Bool.eq_iff_iff, List.all_eq_true, List.all_eq_true]
  exact ⟨fun e i hi => by rw [← h i (List.mem_range.1 hi)]; exact e i hi, fun e i hi => by rw [h i (List.mem_range.1 hi)]; exact e i hi⟩
structure UniL (ns : List PNode) (ys : List TAssignment) (us : List Bool) : Prop where
  len : us.length = ns.length
  good : ∀ m, m < ns.length → GdU ns ys us m
theorem UniL.eq {ns : List PNode} {ys : List TAssignment} (hv : vProg ns ys) {us us' : List Bool} (h : UniL ns ys us) (h' : UniL ns ys us') : us = us' := by
  apply List.ext_getElem?
  intro m
  by_cases hm : m < ns.length
  · obtain ⟨b, h1, h2⟩ := h.good m hm
    obtain ⟨b', h1', h2'⟩ := h'.good m hm
    rw [h1, h1', h2.det hv h2']
  · rw [List.getElem?_eq_none (by rw [h.len]; omega), List.getElem?_eq_none (by rw [h'.len]; omega)]
/-- a name that is no variable was assigned ahead of its node's own assignment, once -/
theorem okP.first {ns : List PNode} {ys : List TAssignment} (ho : okP ns ys) {m k : Nat} {x : PNode} (h : ns[m]? = some x) (h2 : x.op = 2) (hnv : ¬ isVar x.name) (hk : Own1 ns ys m k) :
    ∃ (v r : Nat) (y : TAssignment), firstA ys ys.length x.name = some (v : Int) ∧ v < k ∧ ys[v]? = some y ∧ y.1 = x.name ∧ y.2 = (r : Int) ∧ r < ns.length ∧ lastA ys x.name k ys.length = v := by
  have hm := (List.getElem?_eq_some_iff.1 h).1
  rcases (ho.names m x h).1 h2 with hv | ⟨k', hk', hb⟩
  · exact absurd hv hnv
  · rw [own_unique ho.val _ m (Nat.le_refl _) hm hk' hk] at hb
    obtain ⟨v, hf, hvk⟩ := (firstA_lt ys x.name k).2 hb
    obtain ⟨j, rfl, hj1, hj2⟩ := firstA_bd hf
    cases hy : ys[j]? with
    | none => rw [hy] at hj2; cases hj2
    | some y =>
      rw [hy] at hj2
      have hn : y.1 = x.name := Option.some.inj hj2
      have has := ho.val.asg y (List.mem_of_getElem? hy)
      refine ⟨j, y.2.toNat, y, hf, by omega, hy, hn, by omega, by omega, ?_⟩
      have hl := (lastA_lt ys x.name k ys.length).2 ⟨j, hj1, hvk, by rw [hy]; exact hj2⟩
      have hbd := lastA_bd ys x.name k ys.length
      have hat : ∀ n, 0 ≤ lastA ys x.name k n → ∃ i : Nat, lastA ys x.name k n = i ∧ (i : Int) < k ∧ (ys[i]?.map Prod.fst) = some x.name := by
        intro n
        induction n with
        | zero => simp [lastA]
        | succ n ih =>
          simp only [lastA]
          split
          · rename_i hh
            exact fun _ => ⟨n, rfl, hh.1, hh.2⟩
          · exact ih
      obtain ⟨i, hi1, hi2, hi3⟩ := hat _ hl
      rw [hi1]
      rcases Nat.lt_trichotomy i j with hlt | heq | hgt
      · exact absurd (by rw [hy] at *; exact hi3) (fun e => (ho.asg j y hy).2 ⟨i, by omega, by rw [hn]; exact e⟩)
      · rw [heq]
      · cases hy2 : ys[i]? with
        | none => rw [hy2] at hi3; cases hi3
        | some y2 =>
          rw [hy2] at hi3
          have hn2 : y2.1 = x.name := Option.some.inj hi3
          exact absurd ⟨j, by omega, by rw [hy, hn2]; exact hj2⟩ (ho.asg i y2 hy2).2
end Go.Proofs.Ytnclbllhflinfaa.St
end
