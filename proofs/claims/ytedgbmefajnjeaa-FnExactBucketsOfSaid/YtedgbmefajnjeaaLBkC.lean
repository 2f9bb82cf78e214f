/-
  The buckets' sender.
-/
import Derived.Test.YtedgbmefajnjeaaLBkO
import Derived.Test.YtedgbmefajnjeaaCoT
set_option linter.unusedSimpArgs false
set_option linter.unusedVariables false
namespace Go.Proofs.Ytedgbmefajnjeaa.St
open Go.RowKit Go.Proofs.Ytedgbmefajnjeaa.Co
def vB (b : TBucket) : Value := .agg (eBucket b).toArray
set_option maxHeartbeats 8000000 in
theorem snd_ok (cw ch z n : Int) (d : Bool) (l f s : Int) (hv : vCm cw ch z n l f) (hs : 1 ≤ s ∧ s ≤ 12) (B : Heap) (c bB bC bS : Nat) (f0 f1 f2 : Nat × Nat)
    (hB0 : B bB = some (.cells [.chan (some c)].toArray 39 f0)) (hB1 : B bC = some (.cells [I cw, I ch, I z, I n, .bool d, I l, I f].toArray 26 f1)) (hB2 : B bS = some (.cells [I s].toArray 3 f2)) :
    SD Try.prog B c ((bucketsL cw ch s).map vB) (Conc.born Try.prog ⟨.fn (.func 17) [.pointer (some ⟨bB, 0, none⟩), .pointer (some ⟨bC, 0, none⟩), .pointer (some ⟨bS, 0, none⟩)].toArray, #[]⟩) := by
  refine sends_born Try.func17 (by kernel_rfl) rfl Try.ntmps17 rfl fun a h => ?_
  obtain ⟨hcw, hch, _⟩ := hv
  have hk : (Conc.baseD 17).kind ≠ .early := by simp [Conc.baseD]
  repeat' (first | refine sd_seq ?_ | refine sd_region ?_ | refine sl_nil ?_ | refine sd_block ?_ | refine sd_inBlock ?_ | refine sd_skip ?_ | refine sd_condT h rfl ?_ | refine sd_condF h rfl ?_ | refine sd_exit rfl ?_ | ((first | refine sl_move hk rfl rfl h rfl ?_ | refine sl_assign hk rfl rfl h rfl ?_ | refine sl_load hk rfl rfl h rfl hB0 rfl ?_ | refine sl_load hk rfl rfl h rfl hB1 rfl ?_ | refine sl_load hk rfl rfl h rfl hB2 rfl ?_ | refine sl_fieldAddr hk rfl rfl h (fun _ _ => does_fieldAddrL rfl ⟨rfl, rfl⟩) ?_ | refine sl_bin hk rfl rfl h rfl rfl (fun _ _ => does_lssT rfl rfl (by omega) ⟨rfl, rfl⟩) ?_ | refine sl_bin hk rfl rfl h rfl rfl (fun _ _ => does_lssF rfl rfl (by omega) ⟨rfl, rfl⟩) ?_ | refine sl_bin hk rfl rfl h rfl rfl (fun _ _ => does_sub rfl rfl (by omega) ⟨rfl, rfl⟩) ?_ | refine sl_bin hk rfl rfl h rfl rfl (fun _ _ => does_add rfl rfl (by omega) ⟨rfl, rfl⟩) ?_ | refine sl_min hk rfl rfl h rfl rfl ?_ | refine sl_build hk rfl rfl h (fun _ _ => does_build rfl rfl ⟨rfl, rfl⟩) ?_ | refine sl_defer hk rfl h rfl ?_ | refine sl_send hk rfl h rfl rfl ?_); clear h a; intro a h))
  refine sd_rounds (σ := Nat × Int) (fun q vs a => 0 ≤ q.2 ∧ q.2 ≤ 24 ∧ ch - q.2 ≤ q.1 ∧ vs = (allB cw ch s q.1 q.2).map vB ∧
      HD [closeD c #[39] 0] [(0, .pointer (some ⟨bB, 0, none⟩)), (1, .pointer (some ⟨bC, 0, none⟩)), (2, .pointer (some ⟨bS, 0, none⟩)), (3, I q.2)] 36 a) (fun q => q.1) (13, 0)
    ⟨by simp, by simp, by show ch - 0 ≤ (13 : Nat); omega, rfl, h.keep ⟨rfl, rfl, rfl, rfl, trivial⟩⟩ ?_
  clear h a
  rintro ⟨m, y⟩ vs a ⟨hy0, hy1, hym, rfl, h⟩ ihO
  simp only at hy0 hy1 hym h ihO
  by_cases hy : y < ch
  · obtain ⟨m, rfl⟩ : ∃ m', m = m' + 1 := ⟨m - 1, by omega⟩
    show SD _ _ _ (List.map vB (allB cw ch s (m + 1) y)) _
    rw [allB_cons hy, List.map_append]
    repeat' (first | refine sd_seq ?_ | refine sd_region ?_ | refine sl_nil ?_ | refine sd_block ?_ | refine sd_inBlock ?_ | refine sd_skip ?_ | refine sd_condT h rfl ?_ | refine sd_condF h rfl ?_ | refine sd_exit rfl ?_ | ((first | refine sl_move hk rfl rfl h rfl ?_ | refine sl_assign hk rfl rfl h rfl ?_ | refine sl_load hk rfl rfl h rfl hB0 rfl ?_ | refine sl_load hk rfl rfl h rfl hB1 rfl ?_ | refine sl_load hk rfl rfl h rfl hB2 rfl ?_ | refine sl_fieldAddr hk rfl rfl h (fun _ _ => does_fieldAddrL rfl ⟨rfl, rfl⟩) ?_ | refine sl_bin hk rfl rfl h rfl rfl (fun _ _ => does_lssT rfl rfl (by omega) ⟨rfl, rfl⟩) ?_ | refine sl_bin hk rfl rfl h rfl rfl (fun _ _ => does_lssF rfl rfl (by omega) ⟨rfl, rfl⟩) ?_ | refine sl_bin hk rfl rfl h rfl rfl (fun _ _ => does_sub rfl rfl (by omega) ⟨rfl, rfl⟩) ?_ | refine sl_bin hk rfl rfl h rfl rfl (fun _ _ => does_add rfl rfl (by omega) ⟨rfl, rfl⟩) ?_ | refine sl_min hk rfl rfl h rfl rfl ?_ | refine sl_build hk rfl rfl h (fun _ _ => does_build rfl rfl ⟨rfl, rfl⟩) ?_ | refine sl_defer hk rfl h rfl ?_ | refine sl_send hk rfl h rfl rfl ?_); clear h a; intro a h))
    refine sd_rounds (σ := Nat × Int) (fun q vs a => 0 ≤ q.2 ∧ q.2 ≤ 24 ∧ cw - q.2 ≤ q.1 ∧ vs = (rowB cw ch s y q.1 q.2).map vB ++ (allB cw ch s m (y + s)).map vB ∧
        HD [closeD c #[39] 0] [(0, .pointer (some ⟨bB, 0, none⟩)), (1, .pointer (some ⟨bC, 0, none⟩)), (2, .pointer (some ⟨bS, 0, none⟩)), (3, I y), (4, I q.2)] 36 a) (fun q => q.1) (13, 0)
      ⟨by simp, by simp, by show cw - 0 ≤ (13 : Nat); omega, rfl, h.keep ⟨rfl, rfl, rfl, rfl, rfl, trivial⟩⟩ ?_
    clear h a
    rintro ⟨k, x⟩ vs a ⟨hx0, hx1, hxk, rfl, h⟩ ihI
    simp only at hx0 hx1 hxk h ihI
    by_cases hx : x < cw
    · obtain ⟨k, rfl⟩ : ∃ k', k = k' + 1 := ⟨k - 1, by omega⟩
      show SD _ _ _ (List.map vB (rowB cw ch s y (k + 1) x) ++ _) _
      rw [rowB_cons hx, List.map_cons, List.cons_append]
      repeat' (first | refine sd_seq ?_ | refine sd_region ?_ | refine sl_nil ?_ | refine sd_block ?_ | refine sd_inBlock ?_ | refine sd_skip ?_ | refine sd_condT h rfl ?_ | refine sd_condF h rfl ?_ | refine sd_exit rfl ?_ | ((first | refine sl_move hk rfl rfl h rfl ?_ | refine sl_assign hk rfl rfl h rfl ?_ | refine sl_load hk rfl rfl h rfl hB0 rfl ?_ | refine sl_load hk rfl rfl h rfl hB1 rfl ?_ | refine sl_load hk rfl rfl h rfl hB2 rfl ?_ | refine sl_fieldAddr hk rfl rfl h (fun _ _ => does_fieldAddrL rfl ⟨rfl, rfl⟩) ?_ | refine sl_bin hk rfl rfl h rfl rfl (fun _ _ => does_lssT rfl rfl (by omega) ⟨rfl, rfl⟩) ?_ | refine sl_bin hk rfl rfl h rfl rfl (fun _ _ => does_lssF rfl rfl (by omega) ⟨rfl, rfl⟩) ?_ | refine sl_bin hk rfl rfl h rfl rfl (fun _ _ => does_sub rfl rfl (by omega) ⟨rfl, rfl⟩) ?_ | refine sl_bin hk rfl rfl h rfl rfl (fun _ _ => does_add rfl rfl (by omega) ⟨rfl, rfl⟩) ?_ | refine sl_min hk rfl rfl h rfl rfl ?_ | refine sl_build hk rfl rfl h (fun _ _ => does_build rfl rfl ⟨rfl, rfl⟩) ?_ | refine sl_defer hk rfl h rfl ?_ | refine sl_send hk rfl h rfl rfl ?_); clear h a; intro a h))
      exact ihI (k, x + s) _ _ ⟨by show 0 ≤ x + s; omega, by show x + s ≤ 24; omega, by show cw - (x + s) ≤ (k : Nat); omega, rfl, h.keep ⟨rfl, rfl, rfl, rfl, rfl, trivial⟩⟩ (by show k < k + 1; omega)
    · show SD _ _ _ (List.map vB (rowB cw ch s y k x) ++ _) _
      rw [rowB_nil hx, List.map_nil, List.nil_append]
      repeat' (first | refine sd_seq ?_ | refine sd_region ?_ | refine sl_nil ?_ | refine sd_block ?_ | refine sd_inBlock ?_ | refine sd_skip ?_ | refine sd_condT h rfl ?_ | refine sd_condF h rfl ?_ | refine sd_exit rfl ?_ | ((first | refine sl_move hk rfl rfl h rfl ?_ | refine sl_assign hk rfl rfl h rfl ?_ | refine sl_load hk rfl rfl h rfl hB0 rfl ?_ | refine sl_load hk rfl rfl h rfl hB1 rfl ?_ | refine sl_load hk rfl rfl h rfl hB2 rfl ?_ | refine sl_fieldAddr hk rfl rfl h (fun _ _ => does_fieldAddrL rfl ⟨rfl, rfl⟩) ?_ | refine sl_bin hk rfl rfl h rfl rfl (fun _ _ => does_lssT rfl rfl (by omega) ⟨rfl, rfl⟩) ?_ | refine sl_bin hk rfl rfl h rfl rfl (fun _ _ => does_lssF rfl rfl (by omega) ⟨rfl, rfl⟩) ?_ | refine sl_bin hk rfl rfl h rfl rfl (fun _ _ => does_sub rfl rfl (by omega) ⟨rfl, rfl⟩) ?_ | refine sl_bin hk rfl rfl h rfl rfl (fun _ _ => does_add rfl rfl (by omega) ⟨rfl, rfl⟩) ?_ | refine sl_min hk rfl rfl h rfl rfl ?_ | refine sl_build hk rfl rfl h (fun _ _ => does_build rfl rfl ⟨rfl, rfl⟩) ?_ | refine sl_defer hk rfl h rfl ?_ | refine sl_send hk rfl h rfl rfl ?_); clear h a; intro a h))
      exact ihO (m, y + s) _ _ ⟨by show 0 ≤ y + s; omega, by show y + s ≤ 24; omega, by show ch - (y + s) ≤ (m : Nat); omega, rfl, h.keep ⟨rfl, rfl, rfl, rfl, trivial⟩⟩ (by show m < m + 1; omega)
  · show SD _ _ _ (List.map vB (allB cw ch s m y)) _
    rw [allB_nil hy, List.map_nil]
    repeat' (first | refine sd_seq ?_ | refine sd_region ?_ | refine sl_nil ?_ | refine sd_block ?_ | refine sd_inBlock ?_ | refine sd_skip ?_ | refine sd_condT h rfl ?_ | refine sd_condF h rfl ?_ | refine sd_exit rfl ?_ | ((first | refine sl_move hk rfl rfl h rfl ?_ | refine sl_assign hk rfl rfl h rfl ?_ | refine sl_load hk rfl rfl h rfl hB0 rfl ?_ | refine sl_load hk rfl rfl h rfl hB1 rfl ?_ | refine sl_load hk rfl rfl h rfl hB2 rfl ?_ | refine sl_fieldAddr hk rfl rfl h (fun _ _ => does_fieldAddrL rfl ⟨rfl, rfl⟩) ?_ | refine sl_bin hk rfl rfl h rfl rfl (fun _ _ => does_lssT rfl rfl (by omega) ⟨rfl, rfl⟩) ?_ | refine sl_bin hk rfl rfl h rfl rfl (fun _ _ => does_lssF rfl rfl (by omega) ⟨rfl, rfl⟩) ?_ | refine sl_bin hk rfl rfl h rfl rfl (fun _ _ => does_sub rfl rfl (by omega) ⟨rfl, rfl⟩) ?_ | refine sl_bin hk rfl rfl h rfl rfl (fun _ _ => does_add rfl rfl (by omega) ⟨rfl, rfl⟩) ?_ | refine sl_min hk rfl rfl h rfl rfl ?_ | refine sl_build hk rfl rfl h (fun _ _ => does_build rfl rfl ⟨rfl, rfl⟩) ?_ | refine sl_defer hk rfl h rfl ?_ | refine sl_send hk rfl h rfl rfl ?_); clear h a; intro a h))
    refine sd_end ?_
    exact sd_close Try.func17 rfl rfl rfl h
end Go.Proofs.Ytedgbmefajnjeaa.St
