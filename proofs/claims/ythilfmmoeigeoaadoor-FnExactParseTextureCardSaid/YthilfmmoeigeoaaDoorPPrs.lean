/-
  Reading a number: what stands in the text of one. Plain.
-/
import Derived.Test.YthilfmmoeigeoaaDoorPFmt
set_option linter.unusedSimpArgs false
set_option linter.unusedVariables false
namespace Go.Proofs.YthilfmmoeigeoaaDoor.St
open Go.RowKit
def dval (l : List UInt8) : Nat := l.foldl (fun a c => a * 10 + (c.toNat - 48)) 0
theorem dval_snoc (l : List UInt8) (c : UInt8) : dval (l ++ [c]) = dval l * 10 + (c.toNat - 48) := by simp [dval]
theorem digit_nat {d : Nat} (h : d < 10) : (UInt8.ofNat (48 + d)).toNat = 48 + d := by
  rw [UInt8.toNat_ofNat']
  omega
theorem dval_dd : ∀ n : Nat, dval (Lib.decDigits n) = n := fun n => by
  induction n using Nat.strongRecOn with
  | _ n ih =>
    rw [Lib.decDigits]
    split
    · rename_i h
      have := digit_nat h
      show 0 * 10 + ((UInt8.ofNat (48 + n)).toNat - 48) = n
      rw [this]
      omega
    · rename_i h
      rw [dval_snoc, ih (n / 10) (by omega), digit_nat (by omega)]
      omega
theorem dd_digits : ∀ n : Nat, ∀ c ∈ Lib.decDigits n, 48 ≤ c.toNat ∧ c.toNat ≤ 57 := fun n => by
  induction n using Nat.strongRecOn with
  | _ n ih =>
    intro c hc
    rw [Lib.decDigits] at hc
    split at hc
    · rename_i h
      obtain rfl := List.mem_singleton.1 hc
      rw [digit_nat h]
      omega
    · rename_i h
      rcases List.mem_append.1 hc with hc | hc
      · exact ih (n / 10) (by omega) c hc
      · obtain rfl := List.mem_singleton.1 hc
        rw [digit_nat (by omega)]
        omega
/-- the text has a minus ahead -/
def negT (l : List UInt8) : Prop := l[0]? = some 45
theorem negT_itoa {n : Int} : negT (Lib.itoa n) ↔ n < 0 := by
  unfold negT Lib.itoa
  split
  · rename_i h
    exact ⟨fun _ => h, fun _ => rfl⟩
  · rename_i h
    refine ⟨fun e => ?_, fun e => absurd e h⟩
    have := dd_digits n.toNat 45 (List.mem_of_getElem? e)
    simp at this
theorem itoa_neg {n : Int} (h : n < 0) : (Lib.itoa n).drop 1 = Lib.decDigits n.natAbs := by simp [Lib.itoa, h]
theorem itoa_pos {n : Int} (h : ¬ n < 0) : Lib.itoa n = Lib.decDigits n.toNat := by simp [Lib.itoa, h]
open Classical in
/-- what a reader computes of the text of a number -/
noncomputable def readT (l : List UInt8) : Int := if negT l then -(dval (l.drop 1) : Int) else dval l
theorem readT_itoa (n : Int) : readT (Lib.itoa n) = n := by
  unfold readT
  by_cases h : n < 0
  · rw [if_pos (negT_itoa.2 h), itoa_neg h, dval_dd]
    omega
  · rw [if_neg fun e => h (negT_itoa.1 e), itoa_pos h, dval_dd]
    omega
theorem itoa_digit {n : Int} {i : Nat} {c : UInt8} (hi : (Lib.itoa n)[i]? = some c) (h0 : ¬ (i = 0 ∧ negT (Lib.itoa n))) : 48 ≤ c.toNat ∧ c.toNat ≤ 57 := by
  by_cases h : n < 0
  · have hi0 : i ≠ 0 := fun e => h0 ⟨e, negT_itoa.2 h⟩
    obtain ⟨j, rfl⟩ : ∃ j, i = j + 1 := ⟨i - 1, by omega⟩
    have hd := itoa_neg h
    have : (Lib.decDigits n.natAbs)[j]? = some c := by rw [← hd, List.getElem?_drop, Nat.add_comm]; exact hi
    exact dd_digits _ c (List.mem_of_getElem? this)
  · rw [itoa_pos h] at hi
    exact dd_digits _ c (List.mem_of_getElem? hi)
theorem dval_aux : ∀ (l : List UInt8) (a : Nat), (∀ c ∈ l, 48 ≤ c.toNat ∧ c.toNat ≤ 57) → l.foldl (fun a c => a * 10 + (c.toNat - 48)) a < (a + 1) * 10 ^ l.length
  | [], a, _ => by simp
  | c :: l, a, h => by
    have h1 := dval_aux l (a * 10 + (c.toNat - 48)) fun x hx => h x (List.mem_cons_of_mem _ hx)
    have h2 := h c (List.mem_cons_self ..)
    simp only [List.foldl_cons, List.length_cons]
    refine Nat.lt_of_lt_of_le h1 ?_
    rw [Nat.pow_succ, Nat.mul_comm (10 ^ l.length) 10, ← Nat.mul_assoc]
    exact Nat.mul_le_mul_right _ (by omega)
theorem dval_lt (l : List UInt8) (h : ∀ c ∈ l, 48 ≤ c.toNat ∧ c.toNat ≤ 57) : dval l < 10 ^ l.length := by
  have := dval_aux l 0 h
  rw [Nat.zero_add, Nat.one_mul] at this
  exact this
/-- s is the text of n -/
def isTx (s : ByteArray) (n : Int) : Prop := (-1000000000 ≤ n ∧ n ≤ 1000000000) ∧ iTx n = s
theorem isTx_list {s : ByteArray} {n : Int} (h : isTx s n) : s.data.toList = Lib.itoa n := by rw [← h.2]
theorem isTx_inj {s : ByteArray} {n m : Int} (h : isTx s n) (h' : isTx s m) : n = m := by
  have h1 := isTx_list h
  have h2 := isTx_list h'
  rw [← readT_itoa n, ← h1, h2, readT_itoa]
theorem isTx_read {s : ByteArray} {n : Int} (h : isTx s n) : readT s.data.toList = n := by rw [isTx_list h, readT_itoa]
theorem isTx_size {s : ByteArray} {n : Int} (h : isTx s n) : 1 ≤ s.size ∧ s.size ≤ 11 := by
  rw [← h.2, bs_size]
  exact iTx_size h.1
end Go.Proofs.YthilfmmoeigeoaaDoor.St
