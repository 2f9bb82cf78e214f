/-
  Slices made in a drawn region; facts of new memory carried out of one.
-/
import Derived.Test.YtgoimincdbbafaaStMap
set_option linter.unusedSimpArgs false
set_option linter.unusedVariables false
namespace Go.Proofs.Ytgoimincdbbafaa.St
open Go.RowKit
section
variable {P : Program} {l : List Oper} {rs : List Rs} {g : Option (Nat × Bool)} {E : Env} {w W0 : World} {X : List Nat} {B : Heap} {L : List Own} {D : Al → World → Prop} {ty t : TypeId} {x y : Operand}
theorem vc_makeSlice {e n bytes sz : Nat} {z : Value} {zs : List Value} [hs : SliceT P t e] [hz : ZeroC P e zs] [hb : Sz P e z sz bytes] (hby : bytes * n ≤ 281474976710656) (h63 : n ≤ 9223372036854775807) (hg : wantedE l E g = some true)
    {j j' : IntKind} (hx : ev E x = some (.int j n)) (hy : ev E y = some (.int j' n)) :
    OpVC P l rs D g (.makeSlice t x y) ty (.own (fun b => .slice (some ⟨b, 0, none⟩) n n) (.cells (rep n zs).toArray e)) E w :=
  vc_own hg fun ρ hρ w => by
    obtain ⟨inf, hi, hzz, hsize, hbytes⟩ := sz_parts (h := hb)
    obtain ⟨i2, hi2, z2, hz2, hzc, hsz2⟩ := hz.out
    obtain rfl : inf = i2 := Option.some.inj (hi.symm.trans hi2)
    obtain rfl : z = z2 := Option.some.inj (hzz.symm.trans hz2)
    have hb' : (inf.bytes : Int) * (n : Int) ≤ 281474976710656 := by
      rw [hbytes]
      have h : ((bytes * n : Nat) : Int) ≤ 281474976710656 := by omega
      rwa [Int.natCast_mul] at h
    have hr := run_make (P := P) w t e inf z hs.out hi hzz j j' n n (by omega) (Int.le_refl _) hb' (by omega)
    simp only [execOp, mk, hρ _ _ hx, hρ _ _ hy, Sem.run_bind, hr, Result.andThen_ok, Sem.run_pure, Int.toNat_natCast]
    rw [hzc, hsz2, madeCells_eq]
end
def ownRow : Own → Bool
  | .blk _ o => isRow o
  | .row _ _ _ _ => false
/-- objects that are no rows lie beside whatever rows one owns -/
theorem outL {W0 w : World} {X : List Nat} {B : Heap} {L : List Own} (hm : Mem W0 X B L w) (hL : L.all ownRow = true) :
    ∃ B', Heap.le B B' ∧ Mem W0 X B' L w ∧ (∀ b0 o0, w.heap[b0]? = some o0 → isRow o0 = false → B' b0 = some o0) := by
  refine ⟨fun k => if k ∈ L.filterMap Own.dom then none else w.heap[k]?, fun k o hk => ?_, ⟨hm.os, hm.tape, hm.output, hm.size, hm.block, fun k o hk => ?_, hm.own, hm.fresh, fun x hx k hk => ?_, hm.nodup⟩, fun b0 o0 h0 hr => ?_⟩
  · have hne : k ∉ L.filterMap Own.dom := fun e => by
      obtain ⟨x, hx, hxk⟩ := List.mem_filterMap.1 e
      rw [hm.apart x hx k hxk] at hk
      cases hk
    show (if k ∈ L.filterMap Own.dom then none else w.heap[k]?) = some o
    rw [if_neg hne]
    exact hm.base k o hk
  · have hk2 : (if k ∈ L.filterMap Own.dom then none else w.heap[k]?) = some o := hk
    split at hk2
    · cases hk2
    · exact hk2
  · have : k ∈ L.filterMap Own.dom := List.mem_filterMap.2 ⟨x, hx, hk⟩
    show (if k ∈ L.filterMap Own.dom then none else w.heap[k]?) = none
    rw [if_pos this]
  · have hne : b0 ∉ L.filterMap Own.dom := fun e => by
      obtain ⟨x, hx, hxk⟩ := List.mem_filterMap.1 e
      have hr2 := List.all_eq_true.1 hL x hx
      have hh := hm.own x hx
      cases x with
      | row v T sz cs => cases hr2
      | blk b o =>
        simp only [Own.dom, Option.some.injEq] at hxk
        subst hxk
        simp only [Own.holds] at hh
        rw [hh] at h0
        cases h0
        simp only [ownRow] at hr2
        rw [hr2] at hr
        cases hr
    show (if b0 ∈ L.filterMap Own.dom then none else w.heap[b0]?) = some o0
    rw [if_neg hne]
    exact h0
theorem dB_self (b : Bool) : dB (b = true) = b := by
  cases b
  · exact bF (by simp)
  · exact bT rfl
end Go.Proofs.Ytgoimincdbbafaa.St
