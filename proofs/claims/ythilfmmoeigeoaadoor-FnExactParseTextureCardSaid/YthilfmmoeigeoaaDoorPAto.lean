/-
  The library's reading of a number's own text. Plain.
-/
import Derived.Test.YthilfmmoeigeoaaDoorPPrs
import Derived.Lib.Atoi
import Derived.Lib.AtoiTie
set_option linter.unusedSimpArgs false
set_option linter.unusedVariables false
namespace Go.Proofs.YthilfmmoeigeoaaDoor.St
open Go.RowKit
theorem decFrom_snoc : ∀ (l : List UInt8) (acc n : Nat) (c : UInt8) (d : Nat), Lib.decFrom acc l = some n → Lib.digitVal c = some d → Lib.decFrom acc (l ++ [c]) = some (n * 10 + d) := fun l acc n c d h hd => by
  have := Lib.decFrom_take (l ++ [c]) l.length acc n c d (by rw [List.take_left']; exact h; rfl) (by simp) hd
  rwa [List.take_of_length_le (by simp)] at this
theorem digitVal_of {d : Nat} (h : d < 10) : Lib.digitVal (UInt8.ofNat (48 + d)) = some d := by
  have h1 := digit_nat h
  unfold Lib.digitVal
  simp only [h1]
  split
  · congr 1
    omega
  · rename_i h2
    exact absurd ⟨by omega, by omega⟩ h2
theorem decFrom_dd : ∀ n : Nat, Lib.decFrom 0 (Lib.decDigits n) = some n := fun n => by
  induction n using Nat.strongRecOn with
  | _ n ih =>
    rw [Lib.decDigits]
    split
    · rename_i h
      have := decFrom_snoc [] 0 0 _ n rfl (digitVal_of h)
      simpa using this
    · rename_i h
      rw [decFrom_snoc _ 0 (n / 10) _ (n % 10) (ih (n / 10) (by omega)) (digitVal_of (by omega))]
      congr 1
      omega
theorem decNat_dd (n : Nat) : Lib.decNat (Lib.decDigits n) = some n := by
  have h := decDigits_pos n
  unfold Lib.decNat
  rw [if_neg (by cases hd : Lib.decDigits n with | nil => rw [hd] at h; simp at h | cons a l => simp)]
  exact decFrom_dd n
theorem atoi_itoa (n : Int) : Lib.atoi (Lib.itoa n) = some n := by
  by_cases h : n < 0
  · have e : Lib.itoa n = 45 :: Lib.decDigits n.natAbs := by unfold Lib.itoa; rw [if_pos h]
    rw [e]
    simp only [Lib.atoi, beq_self_eq_true, if_true, decNat_dd, Option.map_some]
    show some (-(n.natAbs : Int)) = some n
    congr 1
    omega
  · rw [itoa_pos h]
    have hp := decDigits_pos n.toNat
    cases hd : Lib.decDigits n.toNat with
    | nil => rw [hd] at hp; simp at hp
    | cons c r =>
      have hc := dd_digits n.toNat c (by rw [hd]; exact List.mem_cons_self ..)
      have h45 : ¬ (c == 45) = true := fun e => by
        have : c = 45 := by simpa using e
        subst this
        simp at hc
      have h43 : ¬ (c == 43) = true := fun e => by
        have : c = 43 := by simpa using e
        subst this
        simp at hc
      simp only [Lib.atoi, if_neg h45, if_neg h43]
      rw [← hd, decNat_dd]
      show some ((n.toNat : Nat) : Int) = some n
      congr 1
      omega
theorem atoiAll_itoa {n : Int} (hn : -1000000000 ≤ n ∧ n ≤ 1000000000) : Lib.atoiAll (Lib.itoa n) = .ok n := by
  rw [Lib.atoiAll_short _ (Nat.le_trans (iTx_size hn).2 (by omega)), atoi_itoa]
  rfl
end Go.Proofs.YthilfmmoeigeoaaDoor.St
