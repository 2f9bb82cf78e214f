/-
  Numbers with fractions as texts: the program's.
-/
import Derived.Test.YtgmonjghbjaadaaGreatDoorJ9
import Derived.Shelf.Lays
import Derived.Shelf.Strings.Repeat
set_option linter.unusedSimpArgs false
set_option linter.unusedVariables false
namespace Go.Proofs.YtgmonjghbjaadaaGreatDoor.St
open Go.RowKit
def layP_ren : Go.Shelf.Ren := ⟨fun | 105 => 129 | 212 => 147 | 99 => 148 | 165 => 91 | 166 => 61 | 170 => 149 | 169 => 63 | 263 => 162 | 264 => 163 | 206 => 164 | 240 => 98 | 241 => 123 | 276 => 127 | 277 => 142 | n => n, fun | 9 => 9 | 3 => 3 | 4 => 4 | 20 => 20 | 0 => 0 | 46 => 184 | 109 => 189 | 5 => 5 | 72 => 107 | 76 => 110 | 51 => 198 | 146 => 201 | 53 => 178 | 148 => 204 | 70 => 105 | 37 => 87 | 75 => 109 | 127 => 139 | 164 => 163 | 80 => 112 | n => n, fun | n => n⟩
theorem layP : Lays.n105 Tryz.prog layP_ren := {
  mixed := by kernel_rfl,
  f99 := Tryz.func148.trans (congrArg some (by kernel_rfl)),
  f105 := Tryz.func129.trans (congrArg some (by kernel_rfl)),
  f165 := Tryz.func91.trans (congrArg some (by kernel_rfl)),
  f166 := Tryz.func61.trans (congrArg some (by kernel_rfl)),
  f169 := Tryz.func63.trans (congrArg some (by kernel_rfl)),
  f170 := Tryz.func149.trans (congrArg some (by kernel_rfl)),
  f206 := Tryz.func164.trans (congrArg some (by kernel_rfl)),
  f212 := Tryz.func147.trans (congrArg some (by kernel_rfl)),
  f240 := Tryz.func98.trans (congrArg some (by kernel_rfl)),
  f241 := Tryz.func123.trans (congrArg some (by kernel_rfl)),
  f263 := Tryz.func162.trans (congrArg some (by kernel_rfl)),
  f264 := Tryz.func163.trans (congrArg some (by kernel_rfl)),
  f276 := Tryz.func127.trans (congrArg some (by kernel_rfl)),
  f277 := Tryz.func142.trans (congrArg some (by kernel_rfl)),
  t0 := Tryz.underlying0,
  a0 := Tryz.isAgg0,
  z0 := Tryz.sizeOf0,
  v0 := Tryz.zeroValue0,
  t3 := Tryz.underlying3,
  a3 := Tryz.isAgg3,
  z3 := Tryz.sizeOf3,
  v3 := Tryz.zeroValue3,
  t4 := Tryz.underlying4,
  a4 := Tryz.isAgg4,
  z4 := Tryz.sizeOf4,
  v4 := Tryz.zeroValue4,
  t5 := Tryz.underlying5,
  a5 := Tryz.isAgg5,
  z5 := Tryz.sizeOf5,
  v5 := Tryz.zeroValue5,
  t9 := Tryz.underlying9,
  a9 := Tryz.isAgg9,
  z9 := Tryz.sizeOf9,
  v9 := Tryz.zeroValue9,
  t20 := Tryz.underlying20,
  a20 := Tryz.isAgg20,
  z20 := Tryz.sizeOf20,
  v20 := Tryz.zeroValue20,
  t37 := Tryz.underlying87,
  a37 := Tryz.isAgg87,
  z37 := Tryz.sizeOf87,
  v37 := Tryz.zeroValue87,
  t46 := Tryz.underlying184,
  a46 := Tryz.isAgg184,
  z46 := Tryz.sizeOf184,
  v46 := Tryz.zeroValue184,
  t51 := Tryz.underlying198,
  a51 := Tryz.isAgg198,
  z51 := Tryz.sizeOf198,
  v51 := Tryz.zeroValue198,
  t53 := Tryz.underlying178,
  a53 := Tryz.isAgg178,
  z53 := Tryz.sizeOf178,
  v53 := Tryz.zeroValue178,
  t70 := Tryz.underlying105,
  a70 := Tryz.isAgg105,
  z70 := Tryz.sizeOf105,
  v70 := Tryz.zeroValue105,
  t72 := Tryz.underlying107,
  a72 := Tryz.isAgg107,
  z72 := Tryz.sizeOf107,
  v72 := Tryz.zeroValue107,
  t75 := Tryz.underlying109,
  a75 := Tryz.isAgg109,
  z75 := Tryz.sizeOf109,
  v75 := Tryz.zeroValue109,
  t76 := Tryz.underlying110,
  a76 := Tryz.isAgg110,
  z76 := Tryz.sizeOf110,
  v76 := Tryz.zeroValue110,
  t109 := Tryz.underlying189,
  a109 := Tryz.isAgg189,
  z109 := Tryz.sizeOf189,
  v109 := Tryz.zeroValue189,
  t127 := Tryz.underlying139,
  a127 := Tryz.isAgg139,
  z127 := Tryz.sizeOf139,
  v127 := Tryz.zeroValue139,
  t146 := Tryz.underlying201,
  a146 := Tryz.isAgg201,
  z146 := Tryz.sizeOf201,
  v146 := Tryz.zeroValue201,
  t148 := Tryz.underlying204,
  a148 := Tryz.isAgg204,
  z148 := Tryz.sizeOf204,
  v148 := Tryz.zeroValue204,
  t164 := Tryz.underlying163,
  a164 := Tryz.isAgg163,
  z164 := Tryz.sizeOf163,
  v164 := Tryz.zeroValue163 }
theorem layBP : Builder.Extra Tryz.prog layP_ren := {
  sizeBuilder := by kernel_rfl,
  liesBuilder := by kernel_rfl,
  t5 := Tryz.underlying5,
  a5 := Tryz.isAgg5,
  z5 := Tryz.sizeOf5,
  v5 := Tryz.zeroValue5,
  infoByte := by kernel_rfl,
  cellsByte := by kernel_rfl,
  sizeByte := by kernel_rfl,
  neB5 := by decide }
theorem repeatL_zero : ∀ c : Nat, Lib.repeatL [48] c = List.replicate c 48
  | 0 => rfl
  | c + 1 => by rw [Lib.repeatL, repeatL_zero c, List.replicate_succ]; rfl
theorem repeat_ok (c : Nat) (hc : c ≤ 1000) : Fun Tryz.prog 129 [.string ⟨#[48]⟩, .int .i64 c] (.string (bs (List.replicate c 48))) := ⟨fun w => by
  have := Any.strings_Repeat layP layBP ⟨#[48]⟩ c w (by omega) (by show 1 * c ≤ _; omega)
  refine this.mono fun e w' ⟨he, hb⟩ => ⟨he.trans ?_, hb⟩
  rw [show (⟨#[48]⟩ : ByteArray).data.toList = [48] from rfl, repeatL_zero]⟩
theorem repeat_okI (m : Int) (c : Nat) (hm : m = (c : Nat)) (hc : c ≤ 1000) : Fun Tryz.prog 129 [.string ⟨#[48]⟩, .int .i64 m] (.string (bs (List.replicate c 48))) := by
  subst hm
  exact repeat_ok c hc
set_option maxHeartbeats 8000000 in
theorem iFormatNumber_ok (n : Int) (hn : 0 ≤ n ∧ n ≤ 2559999) : FunP Tryz.prog 99 [I n] TabH (.string (bs (numT n))) := by
  have hqs : (iTx (n / 256)).size ≤ 6 := addStr_sz (itoa_small (k := 6) (by omega) (by omega) (by omega))
  have h46 : (⟨#[46]⟩ : ByteArray).size = 1 := rfl
  have hq2 := ByteArray.size_append (a := iTx (n / 256)) (b := ⟨#[46]⟩)
  obtain ⟨r, hrr⟩ : ∃ r, r = n % 256 := ⟨_, rfl⟩
  have hrb : 0 ≤ r ∧ r ≤ 255 := by omega
  have hq := iFormatInt_ok (n / 256) (by omega)
  refine enterFunP Tryz.func99 rfl Tryz.ntmps99 rfl (fun W0 w a hp hm h => ?_)
  have hT := hp
  rw [numT, if_pos hn, ← hrr, fracT]
  by_cases hr : r = 0
  · rw [if_pos hr]
    repeat' (first | refine c_seq ?_ | refine c_region ?_ | refine c_nil ?_ | refine k_then ?_ | refine k_thenR ?_ | refine c_skip ?_ | refine c_ret ?_ | refine c_condT h rfl ?_ | refine c_condF h rfl ?_ | ((refine st_op rfl rfl h ?_); clear h a; (first | (show Does _ (.binOp _ _ _ _ _) _ _ _ _; (first | ((refine does_quoZ rfl rfl (by omega) ?_)) | ((refine does_remR r rfl rfl ⟨by omega, hrr⟩ ?_)) | refine does_eqlT rfl rfl (by omega) ?_)) | (show Does _ (.call _) _ _ _ _; (first | ((refine does_funM hm en53 rfl (within_y _ _ _ hn) ?_; clear hm; intro w hm)) | ((refine does_funP hm en27 rfl hq (hT.mono hm.base) ?_; clear hm; intro w hm)))) | (show Does _ (.move _) _ _ _ _; refine does_move rfl ?_) | (show Does _ (.assign _) _ _ _ _; refine does_assign rfl ?_) | (show Does _ (.unOp _ _ _) _ _ _ _; (refine does_not rfl ?_))); intro a h; (try simp only [Value.cells, List.toList_toArray, splice, List.set_cons_zero, List.set_cons_succ, List.drop_zero, List.drop_succ_cons, List.take_succ_cons, List.take_zero, Nat.zero_add, Nat.reduceAdd, Nat.reduceMul, Int.reduceAdd, Int.reduceToNat, Int.reduceTMod, Nat.zero_mul, Nat.one_mul, Int.toNat_natCast] at h)))
    (refine k_ret1 rfl h rfl ⟨?_, hm.below⟩)
    rfl
  · rw [if_neg hr]
    by_cases h1 : c1N r
    · rw [if_pos h1]
      · have h1' := h1
        unfold c1N at h1'
        have hfb : 0 ≤ (r * 10 + 255) / 256 ∧ (r * 10 + 255) / 256 < 10 := by omega
        have hil : (Lib.itoa ((r * 10 + 255) / 256)).length ≤ 1 := itoa_small hfb.1 (by omega) (by omega)
        have hz : (iTx ((r * 10 + 255) / 256)).size = (Lib.itoa ((r * 10 + 255) / 256)).length := bs_size _
        have hf := iFormatInt_ok ((r * 10 + 255) / 256) (by omega)
        have hrs : (bs (List.replicate (1 - (Lib.itoa ((r * 10 + 255) / 256)).length) 48)).size = 1 - (Lib.itoa ((r * 10 + 255) / 256)).length := by rw [bs_size (List.replicate (1 - (Lib.itoa ((r * 10 + 255) / 256)).length) 48), List.length_replicate]
        have hra := ByteArray.size_append (a := iTx (n / 256) ++ ⟨#[46]⟩) (b := bs (List.replicate (1 - (Lib.itoa ((r * 10 + 255) / 256)).length) 48))
        repeat' (first | refine c_seq ?_ | refine c_region ?_ | refine c_nil ?_ | refine k_then ?_ | refine k_thenR ?_ | refine k_inR ?_ | refine c_skip ?_ | refine c_ret ?_ | refine c_block ?_ | refine r_succ ?_ | refine c_condT h rfl ?_ | refine c_condF h rfl ?_ | (refine c_rounds 1 ?_) | ((refine st_op rfl rfl h ?_); clear h a; (first | (show Does _ (.binOp _ _ _ _ _) _ _ _ _; (first | ((refine does_quoZ rfl rfl (by omega) ?_)) | ((refine does_remR r rfl rfl ⟨by omega, hrr⟩ ?_)) | ((refine does_addStr rfl rfl (by omega) ?_)) | refine does_lssT rfl rfl (by omega) ?_ | refine does_eqlT rfl rfl (by omega) ?_ | refine does_eqlF rfl rfl (by omega) ?_ | refine does_mul rfl rfl (mul_in (by omega) (by omega)) ?_ | refine does_add rfl rfl (by omega) ?_ | refine does_sub rfl rfl (by omega) ?_)) | (show Does _ (.call _) _ _ _ _; (first | ((refine does_funM hm en53 rfl (within_y _ _ _ hn) ?_; clear hm; intro w hm)) | ((refine does_funP hm en27 rfl hq (hT.mono hm.base) ?_; clear hm; intro w hm)) | ((refine does_funP hm en27 rfl hf (hT.mono hm.base) ?_; clear hm; intro w hm)) | ((refine does_funM hm en129 rfl (repeat_okI _ (1 - (Lib.itoa ((r * 10 + 255) / 256)).length) (by omega) (by omega)) ?_; clear hm; intro w hm)) | (refine does_funM hm en128 rfl (power1_ok ) ?_; clear hm; intro w hm) | refine does_lenStr (StrT.out) rfl ?_)) | (show Does _ (.move _) _ _ _ _; refine does_move rfl ?_) | (show Does _ (.assign _) _ _ _ _; refine does_assign rfl ?_) | (show Does _ (.pick _ _ _) _ _ _ _; (refine does_pickT rfl rfl ?_)) | (show Does _ (.unOp _ _ _) _ _ _ _; (refine does_not rfl ?_))); intro a h; (try simp only [Value.cells, List.toList_toArray, splice, List.set_cons_zero, List.set_cons_succ, List.drop_zero, List.drop_succ_cons, List.take_succ_cons, List.take_zero, Nat.zero_add, Nat.reduceAdd, Nat.reduceMul, Int.reduceAdd, Int.reduceToNat, Int.reduceTMod, Nat.zero_mul, Nat.one_mul, Int.toNat_natCast] at h)))
        all_goals first | (exfalso; omega) | skip
        all_goals (refine k_ret1 rfl h rfl ⟨?_, hm.below⟩)
        all_goals rw [padT, ← List.append_assoc, ← bs_append, ← bs_append, ← bs_append]
    · rw [if_neg h1]
      have h1' := h1
      unfold c1N at h1'
      by_cases h2 : c2N r
      · rw [if_pos h2]
        have h2' := h2
        unfold c2N at h2'
        have hfb : 0 ≤ (r * 100 + 255) / 256 ∧ (r * 100 + 255) / 256 < 100 := by omega
        have hil : (Lib.itoa ((r * 100 + 255) / 256)).length ≤ 2 := itoa_small hfb.1 (by omega) (by omega)
        have hz : (iTx ((r * 100 + 255) / 256)).size = (Lib.itoa ((r * 100 + 255) / 256)).length := bs_size _
        have hf := iFormatInt_ok ((r * 100 + 255) / 256) (by omega)
        have hrs : (bs (List.replicate (2 - (Lib.itoa ((r * 100 + 255) / 256)).length) 48)).size = 2 - (Lib.itoa ((r * 100 + 255) / 256)).length := by rw [bs_size (List.replicate (2 - (Lib.itoa ((r * 100 + 255) / 256)).length) 48), List.length_replicate]
        have hra := ByteArray.size_append (a := iTx (n / 256) ++ ⟨#[46]⟩) (b := bs (List.replicate (2 - (Lib.itoa ((r * 100 + 255) / 256)).length) 48))
        repeat' (first | refine c_seq ?_ | refine c_region ?_ | refine c_nil ?_ | refine k_then ?_ | refine k_thenL ?_ | refine k_thenR ?_ | refine k_inN ?_ | refine k_inR ?_ | refine c_skip ?_ | refine c_ret ?_ | refine c_block ?_ | refine r_succ ?_ | refine c_condT h rfl ?_ | refine c_condF h rfl ?_ | (refine c_rounds 2 ?_) | ((refine st_op rfl rfl h ?_); clear h a; (first | (show Does _ (.binOp _ _ _ _ _) _ _ _ _; (first | ((refine does_quoZ rfl rfl (by omega) ?_)) | ((refine does_remR r rfl rfl ⟨by omega, hrr⟩ ?_)) | ((refine does_addStr rfl rfl (by omega) ?_)) | refine does_lssT rfl rfl (by omega) ?_ | refine does_lss rfl rfl ?_ | refine does_eqlT rfl rfl (by omega) ?_ | refine does_eqlF rfl rfl (by omega) ?_ | refine does_mul rfl rfl (mul_in (by omega) (by omega)) ?_ | refine does_add rfl rfl (by omega) ?_ | refine does_sub rfl rfl (by omega) ?_)) | (show Does _ (.call _) _ _ _ _; (first | ((refine does_funM hm en53 rfl (within_y _ _ _ hn) ?_; clear hm; intro w hm)) | ((refine does_funP hm en27 rfl hq (hT.mono hm.base) ?_; clear hm; intro w hm)) | ((refine does_funP hm en27 rfl hf (hT.mono hm.base) ?_; clear hm; intro w hm)) | ((refine does_funM hm en129 rfl (repeat_okI _ (2 - (Lib.itoa ((r * 100 + 255) / 256)).length) (by omega) (by omega)) ?_; clear hm; intro w hm)) | (refine does_funM hm en128 rfl (power1_ok ) ?_; clear hm; intro w hm) | (refine does_funM hm en128 rfl (power2_ok ) ?_; clear hm; intro w hm) | refine does_lenStr (StrT.out) rfl ?_)) | (show Does _ (.move _) _ _ _ _; refine does_move rfl ?_) | (show Does _ (.assign _) _ _ _ _; refine does_assign rfl ?_) | (show Does _ (.pick _ _ _) _ _ _ _; (first | refine does_pickT rfl rfl ?_ | refine does_pickF rfl rfl ?_)) | (show Does _ (.unOp _ _ _) _ _ _ _; (refine does_not rfl ?_))); intro a h; (try simp only [Value.cells, List.toList_toArray, splice, List.set_cons_zero, List.set_cons_succ, List.drop_zero, List.drop_succ_cons, List.take_succ_cons, List.take_zero, Nat.zero_add, Nat.reduceAdd, Nat.reduceMul, Int.reduceAdd, Int.reduceToNat, Int.reduceTMod, Nat.zero_mul, Nat.one_mul, Int.toNat_natCast] at h)) | ((refine st_skip rfl rfl h ?_); clear h a; intro a h) | (refine st_guardD rfl rfl h ?_ ?_ <;> clear h <;> intro hc h))
        all_goals first | (exfalso; omega) | skip
        all_goals (refine k_ret1 rfl h rfl ⟨?_, hm.below⟩)
        all_goals rw [padT, ← List.append_assoc, ← bs_append, ← bs_append, ← bs_append]
      · rw [if_neg h2]
        have h2' := h2
        unfold c2N at h2'
        have hfb : 0 ≤ (r * 1000 + 255) / 256 ∧ (r * 1000 + 255) / 256 < 1000 := by omega
        have hil : (Lib.itoa ((r * 1000 + 255) / 256)).length ≤ 3 := itoa_small hfb.1 (by omega) (by omega)
        have hz : (iTx ((r * 1000 + 255) / 256)).size = (Lib.itoa ((r * 1000 + 255) / 256)).length := bs_size _
        have hf := iFormatInt_ok ((r * 1000 + 255) / 256) (by omega)
        have hrs : (bs (List.replicate (3 - (Lib.itoa ((r * 1000 + 255) / 256)).length) 48)).size = 3 - (Lib.itoa ((r * 1000 + 255) / 256)).length := by rw [bs_size (List.replicate (3 - (Lib.itoa ((r * 1000 + 255) / 256)).length) 48), List.length_replicate]
        have hra := ByteArray.size_append (a := iTx (n / 256) ++ ⟨#[46]⟩) (b := bs (List.replicate (3 - (Lib.itoa ((r * 1000 + 255) / 256)).length) 48))
        repeat' (first | refine c_seq ?_ | refine c_region ?_ | refine c_nil ?_ | refine k_then ?_ | refine k_thenL ?_ | refine k_thenR ?_ | refine k_inN ?_ | refine k_inR ?_ | refine c_skip ?_ | refine c_ret ?_ | refine c_block ?_ | refine r_succ ?_ | refine c_condT h rfl ?_ | refine c_condF h rfl ?_ | (refine c_rounds 3 ?_) | ((refine st_op rfl rfl h ?_); clear h a; (first | (show Does _ (.binOp _ _ _ _ _) _ _ _ _; (first | ((refine does_quoZ rfl rfl (by omega) ?_)) | ((refine does_remR r rfl rfl ⟨by omega, hrr⟩ ?_)) | ((refine does_addStr rfl rfl (by omega) ?_)) | refine does_lssT rfl rfl (by omega) ?_ | refine does_lss rfl rfl ?_ | refine does_eqlT rfl rfl (by omega) ?_ | refine does_eqlF rfl rfl (by omega) ?_ | refine does_mul rfl rfl (mul_in (by omega) (by omega)) ?_ | refine does_add rfl rfl (by omega) ?_ | refine does_sub rfl rfl (by omega) ?_)) | (show Does _ (.call _) _ _ _ _; (first | ((refine does_funM hm en53 rfl (within_y _ _ _ hn) ?_; clear hm; intro w hm)) | ((refine does_funP hm en27 rfl hq (hT.mono hm.base) ?_; clear hm; intro w hm)) | ((refine does_funP hm en27 rfl hf (hT.mono hm.base) ?_; clear hm; intro w hm)) | ((refine does_funM hm en129 rfl (repeat_okI _ (3 - (Lib.itoa ((r * 1000 + 255) / 256)).length) (by omega) (by omega)) ?_; clear hm; intro w hm)) | (refine does_funM hm en128 rfl (power1_ok ) ?_; clear hm; intro w hm) | (refine does_funM hm en128 rfl (power2_ok ) ?_; clear hm; intro w hm) | (refine does_funM hm en128 rfl (power3_ok ) ?_; clear hm; intro w hm) | refine does_lenStr (StrT.out) rfl ?_)) | (show Does _ (.move _) _ _ _ _; refine does_move rfl ?_) | (show Does _ (.assign _) _ _ _ _; refine does_assign rfl ?_) | (show Does _ (.pick _ _ _) _ _ _ _; (first | refine does_pickT rfl rfl ?_ | refine does_pickF rfl rfl ?_)) | (show Does _ (.unOp _ _ _) _ _ _ _; (refine does_not rfl ?_))); intro a h; (try simp only [Value.cells, List.toList_toArray, splice, List.set_cons_zero, List.set_cons_succ, List.drop_zero, List.drop_succ_cons, List.take_succ_cons, List.take_zero, Nat.zero_add, Nat.reduceAdd, Nat.reduceMul, Int.reduceAdd, Int.reduceToNat, Int.reduceTMod, Nat.zero_mul, Nat.one_mul, Int.toNat_natCast] at h)) | ((refine st_skip rfl rfl h ?_); clear h a; intro a h) | (refine st_guardD rfl rfl h ?_ ?_ <;> clear h <;> intro hc h))
        all_goals first | (exfalso; omega) | skip
        all_goals (refine k_ret1 rfl h rfl ⟨?_, hm.below⟩)
        all_goals rw [padT, ← List.append_assoc, ← bs_append, ← bs_append, ← bs_append]
end Go.Proofs.YtgmonjghbjaadaaGreatDoor.St
