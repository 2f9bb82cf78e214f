/-
  Texts of numbers, and of rows of numbers: plain laws.
-/
import Derived.Test.YthilfmmoeigeoaaDoorStCat
import Derived.Lib.ItoaNum
import Derived.Lib.Join
set_option linter.unusedSimpArgs false
set_option linter.unusedVariables false
namespace Go.Proofs.YthilfmmoeigeoaaDoor.St
open Go.RowKit
abbrev bs (l : List UInt8) : ByteArray := ⟨l.toArray⟩
theorem bs_append (a b : List UInt8) : bs a ++ bs b = bs (a ++ b) := by
  apply ByteArray.ext
  simp [ByteArray.data_append]
theorem bs_size (a : List UInt8) : (bs a).size = a.length := by simp [ByteArray.size]
theorem bs_data (a : ByteArray) : bs a.data.toList = a := rfl
theorem strOne (d : Nat) : strOfNums [((48 + d : Nat) : Int)] = bs [UInt8.ofNat (48 + d)] := by
  simp only [strOfNums, List.map_cons, List.map_nil, Int.toNat_natCast]
abbrev dTx (n : Nat) : ByteArray := bs (Lib.decDigits n)
abbrev iTx (n : Int) : ByteArray := bs (Lib.itoa n)
theorem dTx_big {n : Nat} (h : 10 ≤ n) : dTx n = dTx (n / 10) ++ strOfNums [((48 + n % 10 : Nat) : Int)] := by
  rw [strOne, bs_append]
  unfold dTx
  rw [Lib.decDigits, dif_neg (by omega)]
theorem dTx_small {n : Nat} (h : n < 10) : dTx n = strOfNums [((48 + n : Nat) : Int)] := by
  rw [strOne]
  unfold dTx
  rw [Lib.decDigits, dif_pos h]
theorem iTx_pos {n : Nat} : iTx (n : Int) = dTx n := by
  unfold iTx dTx Lib.itoa
  rw [if_neg (by omega), Int.toNat_natCast]
theorem iTx_neg {n : Nat} (h : 0 < n) : iTx (-(n : Int)) = bs [45] ++ dTx n := by
  unfold iTx dTx Lib.itoa
  rw [if_pos (by omega), bs_append, show (-(n : Int)).natAbs = n by omega]
  rfl
theorem decDigits_pos : ∀ n : Nat, 0 < (Lib.decDigits n).length := fun n => by
  rw [Lib.decDigits]
  split <;> simp
theorem decDigits_bd : ∀ (k n : Nat), n < 10 ^ k → 0 < k → (Lib.decDigits n).length ≤ k
  | 0, _, _, h => absurd h (by omega)
  | k + 1, n, hn, _ => by
    rw [Lib.decDigits]
    split
    · simp
    · rename_i h
      have hk : 0 < k := by
        rcases Nat.eq_zero_or_pos k with rfl | h0
        · simp at hn; omega
        · exact h0
      have := decDigits_bd k (n / 10) (by rw [Nat.pow_succ] at hn; omega) hk
      rw [List.length_append]
      simpa using this
theorem iTx_size {n : Int} (h : -1000000000 ≤ n ∧ n ≤ 1000000000) : 1 ≤ (Lib.itoa n).length ∧ (Lib.itoa n).length ≤ 11 := by
  unfold Lib.itoa
  split
  · have h1 := decDigits_bd 10 n.natAbs (by omega) (by omega)
    have h2 := decDigits_pos n.natAbs
    simp only [List.length_cons]
    omega
  · have h1 := decDigits_bd 10 n.toNat (by omega) (by omega)
    have h2 := decDigits_pos n.toNat
    omega
/-- the numbers of a row, commas between them -/
def lTx (l : List Int) : List UInt8 := if l = [] then [45] else Lib.join (l.map Lib.itoa) [44]
def okTx (l : List Int) : Prop := ∀ n ∈ l, -1000000000 ≤ n ∧ n ≤ 1000000000
theorem lens_bd : ∀ {l : List Int}, okTx l → Lib.lens (l.map Lib.itoa) ≤ 11 * l.length
  | [], _ => by simp [Lib.lens]
  | x :: l, h => by
    have h1 := (iTx_size (h x (List.mem_cons_self ..))).2
    have h2 := lens_bd (l := l) fun n hn => h n (List.mem_cons_of_mem _ hn)
    simp only [Lib.lens, List.map_cons, List.sum_cons, List.length_cons] at h2 ⊢
    omega
theorem join_bd {l : List Int} (h : okTx l) : (Lib.join (l.map Lib.itoa) [44]).length ≤ 12 * l.length := by
  cases l with
  | nil => simp [Lib.join, List.intercalate]
  | cons x l =>
    rw [List.map_cons, Lib.join_length, ← List.map_cons]
    have := lens_bd h
    simp only [List.length_cons, List.length_nil, List.length_map] at this ⊢
    omega
/-- what the reference has written after k numbers -/
def jUpTo (l : List Int) (k : Nat) : List UInt8 := Lib.join ((l.take k).map Lib.itoa) [44]
theorem jUpTo_one {l : List Int} (h : 0 < l.length) : jUpTo l 1 = Lib.itoa l[0] := by
  cases l with
  | nil => simp at h
  | cons x l => simp [jUpTo, Lib.join, List.intercalate]
theorem jUpTo_succ {l : List Int} {k : Nat} (h : k + 1 < l.length) : jUpTo l (k + 2) = jUpTo l (k + 1) ++ [44] ++ Lib.itoa l[k + 1] := by
  cases l with
  | nil => simp at h
  | cons x l =>
    have hk : k < l.length := by simpa using h
    unfold jUpTo
    simp only [List.take_succ_cons, List.map_cons, List.getElem_cons_succ]
    rw [Lib.join_cons, Lib.join_cons, List.map_take, List.map_take, Lib.joinTail_take_succ [44] (l.map Lib.itoa) k (Lib.itoa l[k]) (by simp [hk])]
    simp [List.append_assoc]
end Go.Proofs.YthilfmmoeigeoaaDoor.St
