/-
  Contracts of the functions on compiled code.
-/
import Derived.Test.YtgoimincdbbafaaLNum
import Derived.Test.YtgoimincdbbafaaFnB
import Derived.Test.YtgoimincdbbafaaStZip
import Derived.Test.YtgoimincdbbafaaStCur
import Derived.Test.YtgoimincdbbafaaStStr
import Derived.Test.YtgoimincdbbafaaScal
set_option linter.unusedSimpArgs false
set_option linter.unusedVariables false
namespace Go.Proofs.Ytgoimincdbbafaa.St
open Go.RowKit Go.WideShapes
/-- what is left of a size's bound, or -1 -/
def leftR (n left : Int) (v : Value) : Prop := ∃ r, v = I r ∧ (r = -1 ∨ (0 ≤ r ∧ r + n ≤ left))
abbrev eS (s : ByteArray) : List Value := [.string s]
theorem Sl.atS {B : Heap} {p : Option Addr} {xs : List ByteArray} (h : Sl B p eS 1 xs) {k : Nat} (hk : k < xs.length) : ∃ a, p = some a ∧ At B (a.add k) [.string xs[k]] := by
  obtain ⟨a, ha, hat⟩ := h.at hk
  rw [Nat.mul_one] at hat
  exact ⟨a, ha, hat⟩
def smallS (xs : List ByteArray) : Prop := ∀ s ∈ xs, s.size ≤ maxLen
theorem smallS.get {xs : List ByteArray} (h : smallS xs) {k : Nat} (hk : k < xs.length) : xs[k].size ≤ 9223372036854775807 := by
  have := h _ (List.getElem_mem hk)
  simp only [maxLen] at this
  omega
set_option maxHeartbeats 4000000 in
theorem szStringS_ok (p : Option Addr) (xs : List ByteArray) (c : Nat) (left : Int) (hbd : smallS xs) (hn : xs.length ≤ 9223372036854775807) (hl : 0 ≤ left ∧ left ≤ 1048576) : FunV Try.prog 107 [.slice p xs.length c, I left] (fun H => Sl H p eS 1 xs) (leftR xs.length left) := by
  refine enterFunV Try.func107 rfl Try.ntmps107 rfl (fun W0 w a hp hm h => ?_)
  repeat' (first | refine c_seq ?_ | refine c_region ?_ | refine c_nil ?_ | refine k_then ?_ | refine k_thenR ?_ | refine c_skip ?_ | refine c_ret ?_ | refine c_block ?_ | ((refine st_op rfl rfl h ?_); clear h a; (first | refine does_move rfl ?_ | refine does_assign rfl ?_ | refine zlss rfl rfl ?_ | refine zsub rfl rfl ?_ | refine does_lenS (SliceT.out) rfl ?_); intro a h; (try simp only [Value.cells, splice, nz, Nat.reduceAdd, Nat.reduceMul, Int.reduceAdd, Int.reduceToNat, Int.reduceTMod] at h)) | ((refine c_condD h rfl ?_ ?_) <;> intro hc <;> (try (fail))))
  · exact k_ret1 rfl h rfl ⟨⟨_, rfl, .inl rfl⟩, hm.below⟩
  · refine c_loop (σ := Nat × Int) (fun s a w => s.1 ≤ xs.length ∧ (0 ≤ s.2 ∧ s.2 + xs.length ≤ left) ∧ Mem W0 [] (fun b => W0.heap[b]?) [] w ∧ Holds [(0, .slice p xs.length c), (1, I s.2), (5, .int .i64 s.1)] _ a) (fun s => xs.length - s.1) (0, left - xs.length)
      ⟨Nat.zero_le _, ⟨by omega, by show left - (xs.length : Int) + xs.length ≤ left; omega⟩, hm, h.keep ⟨rfl, rfl, rfl, trivial⟩⟩ ?_
    clear h hm hc
    rintro ⟨k, l⟩ a w ⟨hk, hl2, hm, h⟩
    simp only at hk hl2 h
    by_cases hlt : k < xs.length
    · obtain ⟨q1, rfl, hat1⟩ := hp.atS hlt
      have hsz := hbd.get hlt
      repeat' (first | refine c_seq ?_ | refine c_region ?_ | refine c_nil ?_ | refine k_then ?_ | refine k_thenR ?_ | refine k_inN ?_ | refine k_inR ?_ | refine c_skip ?_ | refine c_ret ?_ | refine c_block ?_ | refine c_condT h rfl ?_ | ((refine st_op rfl rfl h ?_); clear h a; (first | refine does_move rfl ?_ | refine does_assign rfl ?_ | refine does_loadB hm rfl (by assumption) rfl ?_ | refine zlss rfl rfl ?_ | refine zadd rfl rfl ?_ | refine zsub rfl rfl ?_ | refine does_lenS (SliceT.out) rfl ?_ | refine does_lenStr (StrT.out) rfl ?_ | refine ziS1 rfl rfl ?_); intro a h; (try simp only [Value.cells, splice, nz, Nat.reduceAdd, Nat.reduceMul, Int.reduceAdd, Int.reduceToNat, Int.reduceTMod] at h)) | ((refine c_condD h rfl ?_ ?_) <;> intro hc <;> (try (fail))))
      · exact k_ret1 rfl h rfl ⟨⟨_, rfl, .inl rfl⟩, hm.below⟩
      · exact k_thenN ⟨(k + 1, _), ⟨by omega, ⟨by show 0 ≤ l - ((xs[k].size : Nat) : Int); omega, by show l - ((xs[k].size : Nat) : Int) + xs.length ≤ left; omega⟩, hm, h.keep ⟨rfl, rfl, rfl, trivial⟩⟩, by show xs.length - (k + 1) < xs.length - k; omega⟩
    · repeat' (first | refine c_seq ?_ | refine c_region ?_ | refine c_nil ?_ | refine k_then ?_ | refine k_thenE ?_ | refine k_inE ?_ | refine c_ret ?_ | refine c_exit ?_ | refine c_condF h rfl ?_ | ((refine st_op rfl rfl h ?_); clear h a; (first | refine does_move rfl ?_ | refine does_assign rfl ?_ | refine zlss rfl rfl ?_ | refine does_lenS (SliceT.out) rfl ?_); intro a h; (try simp only [Value.cells, splice, nz, Nat.reduceAdd, Nat.reduceMul, Int.reduceAdd, Int.reduceToNat, Int.reduceTMod] at h)))
      exact k_ret1 rfl h rfl ⟨⟨_, rfl, .inr hl2⟩, hm.below⟩
set_option maxHeartbeats 2000000 in
theorem toStringS_ok (p : Option Addr) (xs : List ByteArray) (c : Nat) (hxs : xs.length ≤ 1048576) : FunN Try.prog 113 [.slice p xs.length c] (fun H => Sl H p eS 1 xs) 9 1 (xs.map eS).flatten := by
  refine enterFunN Try.func113 rfl Try.ntmps113 rfl (fun W0 w a hx hm h => ?_)
  repeat' (first | refine c_seq ?_ | refine c_region ?_ | refine c_nil ?_ | refine k_then ?_ | refine c_block ?_ | ((refine st_op rfl rfl h ?_); clear h a; (first | ((refine does_make hm rfl rfl (by omega) (by omega) ?_; clear hm; intro b w hm)) | refine does_move rfl ?_ | refine does_assign rfl ?_ | refine does_lenS (SliceT.out) rfl ?_); intro a h; (try simp only [Value.cells, splice, nz, Nat.reduceAdd, Nat.reduceMul, Int.reduceAdd, Int.reduceToNat, Int.reduceTMod] at h)))
  rw [fillTo_nil] at hm
  refine c_loop (σ := Nat) (fun k a w => k ≤ xs.length ∧ Mem W0 [] (fun b => W0.heap[b]?) [.blk b (.cells (fillTo xs.length [.string ⟨#[]⟩] ((xs.take k).map eS)).toArray 9)] w ∧ Holds [(0, .slice p xs.length c), (3, .slice (some ⟨b, 0, none⟩) xs.length xs.length), (4, .int .i64 k)] _ a) (fun k => xs.length - k) 0
    ⟨Nat.zero_le _, by simpa using hm, h.keep ⟨rfl, rfl, rfl, trivial⟩⟩ ?_
  clear h hm
  rintro k a w ⟨hk, hm, h⟩
  by_cases hlt : k < xs.length
  · obtain ⟨q1, rfl, hat1⟩ := hx.atS hlt
    have hcl := take_map_len eS hk
    have hal := oneLen eS 1 (fun _ => rfl) (xs.take k)
    repeat' (first | refine c_seq ?_ | refine c_region ?_ | refine c_nil ?_ | refine k_then ?_ | refine k_inN ?_ | refine c_skip ?_ | refine c_block ?_ | refine c_condT h rfl ?_ | ((first | refine st_op rfl rfl h ?_ | refine st_opn rfl h ?_); clear h a; (first | ((refine does_storeF 0 hm rfl rfl rfl (by assumption) (by assumption) rfl rfl rfl rfl (by omega) (by omega) ?_); clear hm; intro w hm; (try simp only [Value.cells, splice, nz, ns, Nat.reduceAdd, Nat.reduceMul, Int.reduceAdd, Int.reduceToNat] at hm)) | refine does_move rfl ?_ | refine does_assign rfl ?_ | refine does_loadB hm rfl (by assumption) rfl ?_ | refine zlss rfl rfl ?_ | refine zadd rfl rfl ?_ | refine does_lenS (SliceT.out) rfl ?_ | refine ziSL1 rfl rfl ?_ | refine ziS1 rfl rfl ?_); intro a h; (try simp only [Value.cells, splice, nz, Nat.reduceAdd, Nat.reduceMul, Int.reduceAdd, Int.reduceToNat, Int.reduceTMod] at h)))
    rw [take_map_snoc eS hlt] at hm
    exact k_thenN ⟨k + 1, ⟨by omega, hm, h.keep ⟨rfl, rfl, rfl, trivial⟩⟩, by omega⟩
  · obtain rfl : k = xs.length := by omega
    rw [fillTo_full (by simp), List.take_length] at hm
    have hfl := flat_len (enc := eS) (sz := 1) (fun _ => rfl) xs
    replace hm := hm.toRow 0 (n := xs.length) (cap := 0) 1 rfl hfl (by simp only [maxLen]; omega)
    repeat' (first | refine c_seq ?_ | refine c_region ?_ | refine c_nil ?_ | refine k_then ?_ | refine k_thenE ?_ | refine k_inE ?_ | refine c_ret ?_ | refine c_exit ?_ | refine c_condF h rfl ?_ | ((refine st_op rfl rfl h ?_); clear h a; (first | refine does_move rfl ?_ | refine does_assign rfl ?_ | refine zlss rfl rfl ?_ | refine does_lenS (SliceT.out) rfl ?_); intro a h; (try simp only [Value.cells, splice, nz, Nat.reduceAdd, Nat.reduceMul, Int.reduceAdd, Int.reduceToNat, Int.reduceTMod] at h)))
    exact k_ret1 rfl h rfl ⟨hm.below, row_new (i := 0) hm rfl⟩
set_option maxHeartbeats 2000000 in
theorem eqStringS_same (p q : Option Addr) (xs : List ByteArray) (c d : Nat) (hxs : xs.length ≤ 1048576) : FunP Try.prog 119 [.slice p xs.length c, .slice q xs.length d] (fun H => Sl H p eS 1 xs ∧ Sl H q eS 1 xs) (.bool true) := by
  refine enterFunP Try.func119 rfl Try.ntmps119 rfl (fun W0 w a hp hm h => ?_)
  obtain ⟨hx, hy⟩ := hp
  repeat' (first | refine c_seq ?_ | refine c_region ?_ | refine c_nil ?_ | refine k_then ?_ | refine c_skip ?_ | refine c_block ?_ | refine c_condF h rfl ?_ | ((refine st_op rfl rfl h ?_); clear h a; (first | refine does_move rfl ?_ | refine does_assign rfl ?_ | refine zneq rfl rfl ?_ | refine does_lenS (SliceT.out) rfl ?_); intro a h; (try simp only [Value.cells, splice, nz, Nat.reduceAdd, Nat.reduceMul, Int.reduceAdd, Int.reduceToNat, Int.reduceTMod] at h)))
  refine c_loop (σ := Nat) (fun k a w => k ≤ xs.length ∧ Mem W0 [] (fun b => W0.heap[b]?) [] w ∧ Holds [(0, .slice p xs.length c), (1, .slice q xs.length d), (5, .int .i64 k)] _ a) (fun k => xs.length - k) 0
    ⟨Nat.zero_le _, hm, h.keep ⟨rfl, rfl, rfl, trivial⟩⟩ ?_
  clear h hm
  rintro k a w ⟨hk, hm, h⟩
  by_cases hlt : k < xs.length
  · obtain ⟨q1, rfl, hat1⟩ := hx.atS hlt
    obtain ⟨q2, rfl, hat2⟩ := hy.atS (k := k) (by omega)
    repeat' (first | refine c_seq ?_ | refine c_region ?_ | refine c_nil ?_ | refine k_then ?_ | refine k_inN ?_ | refine c_skip ?_ | refine c_block ?_ | refine c_condT h rfl ?_ | refine c_condF h rfl ?_ | ((refine st_op rfl rfl h ?_); clear h a; (first | refine does_move rfl ?_ | refine does_assign rfl ?_ | refine zlss rfl rfl ?_ | refine zadd rfl rfl ?_ | refine does_lenS (SliceT.out) rfl ?_); intro a h; (try simp only [Value.cells, splice, nz, Nat.reduceAdd, Nat.reduceMul, Int.reduceAdd, Int.reduceToNat, Int.reduceTMod] at h)) | (apply c_drawM (id := 6) 9 [.val _, .val _, .val _, .val _, .val _, .val _, .val _, .val _, .val _] mixed (by kernel_rfl) (h := h) (hm := hm); (case vcs => (repeat' (first | exact vcs_nil | refine vcs_cons ?_ ?_ | (intro w hm; (repeat (first | refine dep_val ?_ | refine dep_nil ?_)); first | exact vc_skip rfl | exact vc_alloc rfl | exact vc_box rfl rfl rfl | exact vc_buildSlice rfl rfl rfl rfl | exact vc_makeSlice (by omega) (by omega) rfl rfl rfl | exact vc_store rfl rfl rfl rfl rfl rfl rfl rfl rfl rfl | (apply vc_run rfl; (first | refine does_move rfl ?_ | refine does_loadB hm rfl (by assumption) rfl ?_ | refine does_neqStrS rfl rfl ?_ | refine does_indexS1 (by omega) rfl rfl ?_); (exact ⟨ext_refl _, rfl⟩)))))); (case hup => kernel_rfl); (case hown => kernel_rfl); (case hnp => kernel_rfl); clear h hm a; intro  w hm; (try simp only [List.map_nil, List.nil_append] at hm); (repeat (first | refine dep_val ?_ | refine dep_nil ?_)); intro a h; (try simp only [Value.cells, List.toList_toArray, splice, List.set_cons_zero, List.set_cons_succ, List.drop_zero, List.drop_succ_cons, List.take_succ_cons, List.take_zero, Nat.zero_add, Nat.reduceAdd, Nat.reduceMul, Int.reduceAdd, Int.reduceToNat, Int.reduceTMod, Nat.zero_mul, Nat.one_mul, Int.toNat_natCast] at h)))
    exact k_thenN ⟨k + 1, ⟨by omega, hm, h.keep ⟨rfl, rfl, rfl, trivial⟩⟩, by omega⟩
  · repeat' (first | refine c_seq ?_ | refine c_region ?_ | refine c_nil ?_ | refine k_then ?_ | refine k_thenE ?_ | refine k_inE ?_ | refine c_ret ?_ | refine c_exit ?_ | refine c_condF h rfl ?_ | ((refine st_op rfl rfl h ?_); clear h a; (first | refine does_move rfl ?_ | refine does_assign rfl ?_ | refine zlss rfl rfl ?_ | refine does_lenS (SliceT.out) rfl ?_); intro a h; (try simp only [Value.cells, splice, nz, Nat.reduceAdd, Nat.reduceMul, Int.reduceAdd, Int.reduceToNat, Int.reduceTMod] at h)))
    (refine k_ret1 rfl h rfl ⟨?_, hm.below⟩)
    rfl
theorem openStringS {H : Type} {enc : TypeId × Value → H} {P : Program} {w : World} {spare : Nat → Bool} {held : Bool} {t e : TypeId} {fuel : Nat} {c : Value} {x : DataW H × List MemPlace} (hu : P.underlying t = some (.slice e)) (hf : flatT P 9 e = some [.str]) (hc : P.cellsOf e = 1)
    (h : DataW.trod enc P w 0 spare held fuel t [c] = some x) : ∃ (p : Option Addr) (xs : List ByteArray) (cap : Nat), c = .slice p xs.length cap ∧ xs.length ≤ cap ∧ cap ≤ maxLen ∧ Sl (fun b => w.heap[b]?) p eS 1 xs ∧ smallS xs := by
  obtain ⟨p, css, cap, rfl, h1, h2, h3, h4⟩ := openSlice hu hf (by simp) (by simpa using hc) h
  obtain ⟨xs, rfl, hq⟩ := list_of eS (fun x => x.size ≤ maxLen) css fun cs hcs => by
    obtain ⟨n0, r0, rfl, b0, f1⟩ := fits_str (h4 cs hcs)
    obtain rfl := fits_nil f1
    exact ⟨n0, rfl, b0⟩
  refine ⟨p, xs, cap, by rw [List.length_map], by rwa [List.length_map] at h1, h2, fun i x hi => ?_, hq⟩
  exact h3 i (eS x) (by rw [List.getElem?_map, hi]; rfl)
abbrev TInstruction := Int × ByteArray × Int
abbrev eInstruction (x : TInstruction) : List Value := [I x.1, .string x.2.1, I x.2.2]
set_option maxHeartbeats 2000000 in
theorem toInstruction_ok (f0 : Int) (f1 : ByteArray) (f2 : Int) : Fun Try.prog 185 [.agg #[I f0, .string f1, I f2]] (.agg #[I f0, .string f1, I f2]) := by
  refine enterFun Try.func185 rfl Try.ntmps185 rfl (fun W0 w a hm h => ?_)
  repeat' (first | refine c_seq ?_ | refine c_region ?_ | refine c_nil ?_ | refine k_then ?_ | refine c_ret ?_ | ((first | refine st_op rfl rfl h ?_ | refine st_opn rfl h ?_); clear h a; (first | (refine does_box hm rfl rfl ?_; clear hm; intro b w hm) | (refine does_alloc hm ?_; clear hm; intro b w hm) | ((refine zs hm rfl rfl rfl rfl rfl rfl ?_); clear hm; intro w hm; (try simp only [Value.cells, splice, nz, ns, Nat.reduceAdd, Nat.reduceMul, Int.reduceAdd, Int.reduceToNat] at hm)) | refine does_fieldAddrL rfl ?_ | refine zl hm rfl rfl ?_ | refine za hm rfl rfl ?_); intro a h; (try simp only [Value.cells, splice, nz, Nat.reduceAdd, Nat.reduceMul, Int.reduceAdd, Int.reduceToNat, Int.reduceTMod] at h)))
  all_goals (refine k_ret (vs := [_]) rfl h ⟨rv_cellA (i := 1) hm rfl rfl rfl, trivial⟩ ⟨?_, hm.below⟩)
  all_goals (rfl)
set_option maxHeartbeats 2000000 in
theorem eqInstruction_same (f0 : Int) (f1 : ByteArray) (f2 : Int) : Fun Try.prog 195 [.agg #[I f0, .string f1, I f2], .agg #[I f0, .string f1, I f2]] (.bool true) := by
  refine enterFun Try.func195 rfl Try.ntmps195 rfl (fun W0 w a hm h => ?_)
  repeat' (first | refine c_seq ?_ | refine c_region ?_ | refine c_nil ?_ | refine k_then ?_ | refine c_skip ?_ | refine c_ret ?_ | refine c_condF h rfl ?_ | ((refine st_op rfl rfl h ?_); clear h a; (first | (refine does_neqStrS rfl rfl ?_) | (refine does_box hm rfl rfl ?_; clear hm; intro b w hm) | refine does_assign rfl ?_ | refine does_fieldAddrL rfl ?_ | refine zl hm rfl rfl ?_ | refine zneq rfl rfl ?_); intro a h; (try simp only [Value.cells, splice, nz, Nat.reduceAdd, Nat.reduceMul, Int.reduceAdd, Int.reduceToNat, Int.reduceTMod] at h)))
  all_goals (refine k_ret1 rfl h rfl ⟨?_, hm.below⟩)
  all_goals (((rfl); done))
set_option maxHeartbeats 2000000 in
theorem toInstructionS_ok (p : Option Addr) (xs : List TInstruction) (c : Nat) (hxs : xs.length ≤ 1048576) : FunN Try.prog 112 [.slice p xs.length c] (fun H => Sl H p eInstruction 3 xs) 181 3 (xs.map eInstruction).flatten := by
  refine enterFunN Try.func112 rfl Try.ntmps112 rfl (fun W0 w a hx hm h => ?_)
  repeat' (first | refine c_seq ?_ | refine c_region ?_ | refine c_nil ?_ | refine k_then ?_ | refine c_block ?_ | ((refine st_op rfl rfl h ?_); clear h a; (first | ((refine does_make hm rfl rfl (by omega) (by omega) ?_; clear hm; intro b w hm)) | refine does_move rfl ?_ | refine does_assign rfl ?_ | refine does_lenS (SliceT.out) rfl ?_); intro a h; (try simp only [Value.cells, splice, nz, Nat.reduceAdd, Nat.reduceMul, Int.reduceAdd, Int.reduceToNat, Int.reduceTMod] at h)))
  rw [fillTo_nil] at hm
  refine c_loop (σ := Nat) (fun k a w => k ≤ xs.length ∧ Mem W0 [] (fun b => W0.heap[b]?) [.blk b (.cells (fillTo xs.length [I 0, .string ⟨#[]⟩, I 0] ((xs.take k).map eInstruction)).toArray 181)] w ∧ Holds [(0, .slice p xs.length c), (3, .slice (some ⟨b, 0, none⟩) xs.length xs.length), (4, .int .i64 k)] _ a) (fun k => xs.length - k) 0
    ⟨Nat.zero_le _, by simpa using hm, h.keep ⟨rfl, rfl, rfl, trivial⟩⟩ ?_
  clear h hm
  rintro k a w ⟨hk, hm, h⟩
  by_cases hlt : k < xs.length
  · obtain ⟨q1, rfl, hat1⟩ := hx.at hlt
    have hcl := take_map_len eInstruction hk
    have hal := oneLen eInstruction 3 (fun _ => rfl) (xs.take k)
    repeat' (first | refine c_seq ?_ | refine c_region ?_ | refine c_nil ?_ | refine k_then ?_ | refine k_inN ?_ | refine c_skip ?_ | refine c_block ?_ | refine c_condT h rfl ?_ | ((first | refine st_op rfl rfl h ?_ | refine st_opn rfl h ?_); clear h a; (first | ((refine does_storeF 0 hm rfl rfl rfl (by assumption) (by assumption) rfl rfl rfl rfl (by omega) (by omega) ?_); clear hm; intro w hm; (try simp only [Value.cells, splice, nz, ns, Nat.reduceAdd, Nat.reduceMul, Int.reduceAdd, Int.reduceToNat] at hm)) | ((refine does_funM hm en185 rfl (toInstruction_ok _ _ _) ?_); clear hm; intro w hm) | refine does_move rfl ?_ | refine does_assign rfl ?_ | refine does_loadBA hm rfl (by assumption) rfl ?_ | refine zlss rfl rfl ?_ | refine zadd rfl rfl ?_ | refine does_lenS (SliceT.out) rfl ?_ | refine ziSLn rfl rfl ?_ | refine ziSn rfl rfl ?_); intro a h; (try simp only [Value.cells, splice, nz, Nat.reduceAdd, Nat.reduceMul, Int.reduceAdd, Int.reduceToNat, Int.reduceTMod] at h)))
    rw [take_map_snoc eInstruction hlt] at hm
    exact k_thenN ⟨k + 1, ⟨by omega, hm, h.keep ⟨rfl, rfl, rfl, trivial⟩⟩, by omega⟩
  · obtain rfl : k = xs.length := by omega
    rw [fillTo_full (by simp), List.take_length] at hm
    have hfl := flatten_length (oneLen eInstruction 3 (fun _ => rfl) xs)
    rw [List.length_map] at hfl
    replace hm := hm.toRow 0 (n := xs.length) (cap := 0) 3 rfl hfl (by simp only [maxLen]; omega)
    repeat' (first | refine c_seq ?_ | refine c_region ?_ | refine c_nil ?_ | refine k_then ?_ | refine k_thenE ?_ | refine k_inE ?_ | refine c_ret ?_ | refine c_exit ?_ | refine c_condF h rfl ?_ | ((refine st_op rfl rfl h ?_); clear h a; (first | refine does_move rfl ?_ | refine does_assign rfl ?_ | refine zlss rfl rfl ?_ | refine does_lenS (SliceT.out) rfl ?_); intro a h; (try simp only [Value.cells, splice, nz, Nat.reduceAdd, Nat.reduceMul, Int.reduceAdd, Int.reduceToNat, Int.reduceTMod] at h)))
    exact k_ret1 rfl h rfl ⟨hm.below, row_new (i := 0) hm rfl⟩
set_option maxHeartbeats 2000000 in
theorem eqInstructionS_same (p q : Option Addr) (xs : List TInstruction) (c d : Nat) (hxs : xs.length ≤ 1048576) : FunP Try.prog 118 [.slice p xs.length c, .slice q xs.length d] (fun H => Sl H p eInstruction 3 xs ∧ Sl H q eInstruction 3 xs) (.bool true) := by
  refine enterFunP Try.func118 rfl Try.ntmps118 rfl (fun W0 w a hp hm h => ?_)
  obtain ⟨hx, hy⟩ := hp
  repeat' (first | refine c_seq ?_ | refine c_region ?_ | refine c_nil ?_ | refine k_then ?_ | refine c_skip ?_ | refine c_block ?_ | refine c_condF h rfl ?_ | ((refine st_op rfl rfl h ?_); clear h a; (first | refine does_move rfl ?_ | refine does_assign rfl ?_ | refine zneq rfl rfl ?_ | refine does_lenS (SliceT.out) rfl ?_); intro a h; (try simp only [Value.cells, splice, nz, Nat.reduceAdd, Nat.reduceMul, Int.reduceAdd, Int.reduceToNat, Int.reduceTMod] at h)))
  refine c_loop (σ := Nat) (fun k a w => k ≤ xs.length ∧ Mem W0 [] (fun b => W0.heap[b]?) [] w ∧ Holds [(0, .slice p xs.length c), (1, .slice q xs.length d), (5, .int .i64 k)] _ a) (fun k => xs.length - k) 0
    ⟨Nat.zero_le _, hm, h.keep ⟨rfl, rfl, rfl, trivial⟩⟩ ?_
  clear h hm
  rintro k a w ⟨hk, hm, h⟩
  by_cases hlt : k < xs.length
  · obtain ⟨q1, rfl, hat1⟩ := hx.at hlt
    obtain ⟨q2, rfl, hat2⟩ := hy.at (k := k) (by omega)
    repeat' (first | refine c_seq ?_ | refine c_region ?_ | refine c_nil ?_ | refine k_then ?_ | refine k_inN ?_ | refine c_skip ?_ | refine c_block ?_ | refine c_condT h rfl ?_ | refine c_condF h rfl ?_ | ((refine st_op rfl rfl h ?_); clear h a; (first | refine does_move rfl ?_ | refine does_assign rfl ?_ | refine zlss rfl rfl ?_ | refine zadd rfl rfl ?_ | refine does_lenS (SliceT.out) rfl ?_); intro a h; (try simp only [Value.cells, splice, nz, Nat.reduceAdd, Nat.reduceMul, Int.reduceAdd, Int.reduceToNat, Int.reduceTMod] at h)) | (apply c_drawM (id := 6) 10 [.val _, .val _, .val _, .val _, .val _, .val _, .val _, .val _, .val _, .val _] mixed (by kernel_rfl) (h := h) (hm := hm); (case vcs => (repeat' (first | exact vcs_nil | refine vcs_cons ?_ ?_ | (intro w hm; (repeat (first | refine dep_val ?_ | refine dep_nil ?_)); first | exact vc_skip rfl | exact vc_alloc rfl | exact vc_box rfl rfl rfl | exact vc_buildSlice rfl rfl rfl rfl | exact vc_makeSlice (by omega) (by omega) rfl rfl rfl | exact vc_store rfl rfl rfl rfl rfl rfl rfl rfl rfl rfl | (apply vc_run rfl; (first | (refine does_funX en195 rfl (eqInstruction_same _ _ _) ?_) | refine does_move rfl ?_ | refine does_loadBA hm rfl (by assumption) rfl ?_ | refine does_not rfl ?_ | refine does_indexSn (by omega) rfl rfl ?_); (first | exact ⟨ext_refl _, rfl⟩ | exact fun _ hx => ⟨hx, rfl⟩)))))); (case hup => kernel_rfl); (case hown => kernel_rfl); (case hnp => kernel_rfl); clear h hm a; intro  w hm; (try simp only [List.map_nil, List.nil_append] at hm); (repeat (first | refine dep_val ?_ | refine dep_nil ?_)); intro a h; (try simp only [Value.cells, List.toList_toArray, splice, List.set_cons_zero, List.set_cons_succ, List.drop_zero, List.drop_succ_cons, List.take_succ_cons, List.take_zero, Nat.zero_add, Nat.reduceAdd, Nat.reduceMul, Int.reduceAdd, Int.reduceToNat, Int.reduceTMod, Nat.zero_mul, Nat.one_mul, Int.toNat_natCast] at h)))
    exact k_thenN ⟨k + 1, ⟨by omega, hm, h.keep ⟨rfl, rfl, rfl, trivial⟩⟩, by omega⟩
  · repeat' (first | refine c_seq ?_ | refine c_region ?_ | refine c_nil ?_ | refine k_then ?_ | refine k_thenE ?_ | refine k_inE ?_ | refine c_ret ?_ | refine c_exit ?_ | refine c_condF h rfl ?_ | ((refine st_op rfl rfl h ?_); clear h a; (first | refine does_move rfl ?_ | refine does_assign rfl ?_ | refine zlss rfl rfl ?_ | refine does_lenS (SliceT.out) rfl ?_); intro a h; (try simp only [Value.cells, splice, nz, Nat.reduceAdd, Nat.reduceMul, Int.reduceAdd, Int.reduceToNat, Int.reduceTMod] at h)))
    (refine k_ret1 rfl h rfl ⟨?_, hm.below⟩)
    rfl

def bdInstruction (x : TInstruction) : Prop := (-9223372036854775808 ≤ x.1 ∧ x.1 ≤ 9223372036854775807) ∧ (x.2.1).size ≤ maxLen ∧ (-9223372036854775808 ≤ x.2.2 ∧ x.2.2 ≤ 9223372036854775807)
theorem openInstructionS {H : Type} {enc : TypeId × Value → H} {P : Program} {w : World} {spare : Nat → Bool} {held : Bool} {t e : TypeId} {fuel : Nat} {c : Value} {x : DataW H × List MemPlace} (hu : P.underlying t = some (.slice e)) (hf : flatT P 9 e = some [.int .i64, .str, .int .i64]) (hc : P.cellsOf e = 3)
    (h : DataW.trod enc P w 0 spare held fuel t [c] = some x) : ∃ (p : Option Addr) (xs : List TInstruction) (cap : Nat), c = .slice p xs.length cap ∧ xs.length ≤ cap ∧ cap ≤ maxLen ∧ Sl (fun b => w.heap[b]?) p eInstruction 3 xs ∧ ∀ x ∈ xs, bdInstruction x := by
  obtain ⟨p, css, cap, rfl, h1, h2, h3, h4⟩ := openSlice hu hf (by simp) (by simpa using hc) h
  obtain ⟨xs, rfl, hq⟩ := list_of eInstruction bdInstruction css fun cs hcs => by
    have f0 := h4 cs hcs
    obtain ⟨n0, r0, rfl, b0, f1⟩ := fits_i64 f0
    obtain ⟨n1, r1, rfl, b1, f2⟩ := fits_str f1
    obtain ⟨n2, r2, rfl, b2, f3⟩ := fits_i64 f2
    obtain rfl := fits_nil f3
    exact ⟨(n0, n1, n2), rfl, b0, b1, b2⟩
  refine ⟨p, xs, cap, by rw [List.length_map], by rwa [List.length_map] at h1, h2, fun i x hi => ?_, hq⟩
  exact h3 i (eInstruction x) (by rw [List.getElem?_map, hi]; rfl)
theorem eInstruction_inj {x y : TInstruction} (h : eInstruction x = eInstruction y) : x = y := by
  obtain ⟨x0, x1, x2⟩ := x
  obtain ⟨y0, y1, y2⟩ := y
  simp only [eInstruction, List.cons.injEq, Value.int.injEq, Value.string.injEq, Value.bool.injEq, true_and, and_true] at h
  simp only [Prod.mk.injEq]
  exact h

def smallI (xs : List TInstruction) : Prop := ∀ x ∈ xs, x.2.1.size ≤ maxLen
theorem smallI.get {xs : List TInstruction} (h : smallI xs) {k : Nat} (hk : k < xs.length) : xs[k].2.1.size ≤ 9223372036854775807 := by
  have := h _ (List.getElem_mem hk)
  simp only [maxLen] at this
  omega
set_option maxHeartbeats 2000000 in
theorem szI_n (o : Int) (s : ByteArray) (n left : Int) (hs : s.size ≤ 9223372036854775807) (hl : 0 ≤ left ∧ left ≤ 1048576) (hh : left < s.size) : Fun Try.prog 180 [.agg #[I o, .string s, I n], I left] (I (-1)) := by
  refine enterFun Try.func180 rfl Try.ntmps180 rfl (fun W0 w a hm h => ?_)
  repeat' (first | refine c_seq ?_ | refine c_region ?_ | refine c_nil ?_ | refine k_then ?_ | refine k_thenR ?_ | refine c_ret ?_ | refine c_condT h rfl ?_ | ((refine st_op rfl rfl h ?_); clear h a; (first | (refine does_box hm rfl rfl ?_; clear hm; intro b w hm) | refine does_move rfl ?_ | refine does_assign rfl ?_ | refine does_fieldAddrL rfl ?_ | refine zl hm rfl rfl ?_ | refine zlss rfl rfl ?_ | refine zsub rfl rfl ?_ | refine does_lenStr (StrT.out) rfl ?_); intro a h; (try simp only [Value.cells, splice, nz, Nat.reduceAdd, Nat.reduceMul, Int.reduceAdd, Int.reduceToNat, Int.reduceTMod] at h)))
  all_goals (refine k_ret1 rfl h rfl ⟨?_, hm.below⟩)
  all_goals (rfl)
set_option maxHeartbeats 2000000 in
theorem szI_y (o : Int) (s : ByteArray) (n left : Int) (hs : s.size ≤ 9223372036854775807) (hl : 0 ≤ left ∧ left ≤ 1048576) (hh : s.size ≤ left) : Fun Try.prog 180 [.agg #[I o, .string s, I n], I left] (I (left - s.size)) := by
  refine enterFun Try.func180 rfl Try.ntmps180 rfl (fun W0 w a hm h => ?_)
  repeat' (first | refine c_seq ?_ | refine c_region ?_ | refine c_nil ?_ | refine k_then ?_ | refine c_skip ?_ | refine c_ret ?_ | refine c_condF h rfl ?_ | ((refine st_op rfl rfl h ?_); clear h a; (first | (refine does_box hm rfl rfl ?_; clear hm; intro b w hm) | refine does_move rfl ?_ | refine does_assign rfl ?_ | refine does_fieldAddrL rfl ?_ | refine zl hm rfl rfl ?_ | refine zlss rfl rfl ?_ | refine zsub rfl rfl ?_ | refine does_lenStr (StrT.out) rfl ?_); intro a h; (try simp only [Value.cells, splice, nz, Nat.reduceAdd, Nat.reduceMul, Int.reduceAdd, Int.reduceToNat, Int.reduceTMod] at h)))
  all_goals (refine k_ret1 rfl h rfl ⟨?_, hm.below⟩)
  all_goals (rfl)
set_option maxHeartbeats 4000000 in
theorem szInstructionS_ok (p : Option Addr) (xs : List TInstruction) (c : Nat) (left : Int) (hbd : smallI xs) (hn : xs.length ≤ 9223372036854775807) (hl : 0 ≤ left ∧ left ≤ 1048576) : FunV Try.prog 106 [.slice p xs.length c, I left] (fun H => Sl H p eInstruction 3 xs) (leftR xs.length left) := by
  refine enterFunV Try.func106 rfl Try.ntmps106 rfl (fun W0 w a hp hm h => ?_)
  repeat' (first | refine c_seq ?_ | refine c_region ?_ | refine c_nil ?_ | refine k_then ?_ | refine k_thenR ?_ | refine c_skip ?_ | refine c_ret ?_ | refine c_block ?_ | ((refine st_op rfl rfl h ?_); clear h a; (first | refine does_move rfl ?_ | refine does_assign rfl ?_ | refine zlss rfl rfl ?_ | refine zsub rfl rfl ?_ | refine does_lenS (SliceT.out) rfl ?_); intro a h; (try simp only [Value.cells, splice, nz, Nat.reduceAdd, Nat.reduceMul, Int.reduceAdd, Int.reduceToNat, Int.reduceTMod] at h)) | ((refine c_condD h rfl ?_ ?_) <;> intro hc <;> (try (fail))))
  · exact k_ret1 rfl h rfl ⟨⟨_, rfl, .inl rfl⟩, hm.below⟩
  · refine c_loop (σ := Nat × Int) (fun s a w => s.1 ≤ xs.length ∧ (0 ≤ s.2 ∧ s.2 + xs.length ≤ left) ∧ Mem W0 [] (fun b => W0.heap[b]?) [] w ∧ Holds [(0, .slice p xs.length c), (1, I s.2), (5, .int .i64 s.1)] _ a) (fun s => xs.length - s.1) (0, left - xs.length)
      ⟨Nat.zero_le _, ⟨by omega, by show left - (xs.length : Int) + xs.length ≤ left; omega⟩, hm, h.keep ⟨rfl, rfl, rfl, trivial⟩⟩ ?_
    clear h hm hc
    rintro ⟨k, l⟩ a w ⟨hk, hl2, hm, h⟩
    simp only at hk hl2 h
    by_cases hlt : k < xs.length
    · obtain ⟨q1, rfl, hat1⟩ := hp.at hlt
      have hsz := hbd.get hlt
      by_cases hfit : ((xs[k].2.1.size : Nat) : Int) ≤ l
      · repeat' (first | refine c_seq ?_ | refine c_region ?_ | refine c_nil ?_ | refine k_then ?_ | refine k_inN ?_ | refine c_skip ?_ | refine c_block ?_ | refine c_condT h rfl ?_ | refine c_condF h rfl ?_ | ((refine st_op rfl rfl h ?_); clear h a; (first | ((refine does_funM hm en180 rfl (szI_y _ _ _ _ (by first | assumption | omega) (by first | assumption | omega) (by first | assumption | omega)) ?_); clear hm; intro w hm) | refine does_move rfl ?_ | refine does_assign rfl ?_ | refine does_loadBA hm rfl (by assumption) rfl ?_ | refine zlss rfl rfl ?_ | refine zadd rfl rfl ?_ | refine does_lenS (SliceT.out) rfl ?_ | refine ziSn rfl rfl ?_); intro a h; (try simp only [Value.cells, splice, nz, Nat.reduceAdd, Nat.reduceMul, Int.reduceAdd, Int.reduceToNat, Int.reduceTMod] at h)))
        exact k_thenN ⟨(k + 1, _), ⟨by omega, ⟨by show 0 ≤ l - ((xs[k].2.1.size : Nat) : Int); omega, by show l - ((xs[k].2.1.size : Nat) : Int) + xs.length ≤ left; omega⟩, hm, h.keep ⟨rfl, rfl, rfl, trivial⟩⟩, by show xs.length - (k + 1) < xs.length - k; omega⟩
      · repeat' (first | refine c_seq ?_ | refine c_region ?_ | refine c_nil ?_ | refine k_then ?_ | refine k_thenR ?_ | refine k_inR ?_ | refine c_skip ?_ | refine c_ret ?_ | refine c_block ?_ | refine c_condT h rfl ?_ | ((refine st_op rfl rfl h ?_); clear h a; (first | ((refine does_funM hm en180 rfl (szI_n _ _ _ _ (by first | assumption | omega) (by first | assumption | omega) (by first | assumption | omega)) ?_); clear hm; intro w hm) | refine does_move rfl ?_ | refine does_assign rfl ?_ | refine does_loadBA hm rfl (by assumption) rfl ?_ | refine zlss rfl rfl ?_ | refine does_lenS (SliceT.out) rfl ?_ | refine ziSn rfl rfl ?_); intro a h; (try simp only [Value.cells, splice, nz, Nat.reduceAdd, Nat.reduceMul, Int.reduceAdd, Int.reduceToNat, Int.reduceTMod] at h)))
        exact k_ret1 rfl h rfl ⟨⟨_, rfl, .inl rfl⟩, hm.below⟩
    · repeat' (first | refine c_seq ?_ | refine c_region ?_ | refine c_nil ?_ | refine k_then ?_ | refine k_thenE ?_ | refine k_inE ?_ | refine c_ret ?_ | refine c_exit ?_ | refine c_condF h rfl ?_ | ((refine st_op rfl rfl h ?_); clear h a; (first | refine does_move rfl ?_ | refine does_assign rfl ?_ | refine zlss rfl rfl ?_ | refine does_lenS (SliceT.out) rfl ?_); intro a h; (try simp only [Value.cells, splice, nz, Nat.reduceAdd, Nat.reduceMul, Int.reduceAdd, Int.reduceToNat, Int.reduceTMod] at h)))
      exact k_ret1 rfl h rfl ⟨⟨_, rfl, .inr hl2⟩, hm.below⟩
set_option maxHeartbeats 4000000 in
theorem szCode_ok (p q : Option Addr) (xs : List TInstruction) (ys : List ByteArray) (c d : Nat) (left : Int) (hbx : smallI xs) (hby : smallS ys) (hn : xs.length ≤ 9223372036854775807) (hn' : ys.length ≤ 9223372036854775807) (hl : 0 ≤ left ∧ left ≤ 1048576) :
    FunV Try.prog 40 [.agg #[.slice p xs.length c, .slice q ys.length d], I left] (fun H => Sl H p eInstruction 3 xs ∧ Sl H q eS 1 ys) (leftR (xs.length + ys.length) left) := by
  refine enterFunV Try.func40 rfl Try.ntmps40 rfl (fun W0 w a hp hm h => ?_)
  obtain ⟨hx, hy⟩ := hp
  repeat' (first | refine c_seq ?_ | refine c_region ?_ | refine c_nil ?_ | refine k_then ?_ | refine k_thenR ?_ | refine c_skip ?_ | refine c_ret ?_ | ((refine st_op rfl rfl h ?_); clear h a; (first | (refine does_box hm rfl rfl ?_; clear hm; intro b w hm) | (refine does_funVal hm en106 rfl (szInstructionS_ok _ _ _ _ (by assumption) (by omega) (by omega)) (by repeat' (exact Sl.up (by assumption) hm)) ?_; clear hm; rintro v w ⟨r1, rfl, hr1⟩ hm) | (refine does_funVal hm en107 rfl (szStringS_ok _ _ _ _ (by assumption) (by omega) (by omega)) (by repeat' (exact Sl.up (by assumption) hm)) ?_; clear hm; rintro v w ⟨r1, rfl, hr1⟩ hm) | refine does_move rfl ?_ | refine does_assign rfl ?_ | refine does_fieldAddrL rfl ?_ | refine zl hm rfl rfl ?_ | refine zlss rfl rfl ?_); intro a h; (try simp only [Value.cells, splice, nz, Nat.reduceAdd, Nat.reduceMul, Int.reduceAdd, Int.reduceToNat, Int.reduceTMod] at h)) | ((refine c_condD h rfl ?_ ?_) <;> intro hc <;> (try (fail))))
  all_goals first | exact k_ret1 rfl h rfl ⟨⟨_, rfl, .inl rfl⟩, hm.below⟩ | exact k_ret1 rfl h rfl ⟨⟨_, rfl, .inr ⟨by omega, by omega⟩⟩, hm.below⟩
def CodeR (xs : List TInstruction) (ys : List ByteArray) (v : Value) (H : Heap) : Prop := ∃ p c q d, v = .agg #[.slice p xs.length c, .slice q ys.length d] ∧ (xs.length ≤ c ∧ c ≤ maxLen) ∧ (ys.length ≤ d ∧ d ≤ maxLen) ∧ Sl H p eInstruction 3 xs ∧ Sl H q eS 1 ys
instance (xs : List TInstruction) (ys : List ByteArray) : MonoR (CodeR xs ys) := ⟨fun _ _ _ hle ⟨p, c, q, d, h0, h1, h2, h3, h4⟩ => ⟨p, c, q, d, h0, h1, h2, h3.mono hle, h4.mono hle⟩⟩
set_option maxHeartbeats 4000000 in
theorem toCode_ok (p q : Option Addr) (xs : List TInstruction) (ys : List ByteArray) (c d : Nat) (hxs : xs.length ≤ 1048576) (hys : ys.length ≤ 1048576) : FunR Try.prog 42 [.agg #[.slice p xs.length c, .slice q ys.length d]] (fun H => Sl H p eInstruction 3 xs ∧ Sl H q eS 1 ys) (CodeR xs ys) := by
  refine enterFunR Try.func42 rfl Try.ntmps42 rfl (fun W0 w a hp hm h => ?_)
  obtain ⟨hx, hy⟩ := hp
  repeat' (first | refine c_seq ?_ | refine c_region ?_ | refine c_nil ?_ | refine k_then ?_ | ((refine st_op rfl rfl h ?_); clear h a; (first | (refine does_box hm rfl rfl ?_; clear hm; intro b w hm) | (refine does_alloc hm ?_; clear hm; intro b w hm) | refine does_fieldAddrL rfl ?_ | refine zl hm rfl rfl ?_); intro a h; (try simp only [Value.cells, splice, nz, Nat.reduceAdd, Nat.reduceMul, Int.reduceAdd, Int.reduceToNat, Int.reduceTMod] at h)))
  refine st_op rfl rfl h ?_; clear h a; refine does_funN hm en112 rfl (toInstructionS_ok _ _ _ (by omega)) (by repeat' (exact Sl.up (by assumption) hm)) ?_; clear hm; intro v w hm a h
  obtain ⟨p3, c3, rfl, hcc3, hcm3⟩ := row_slice (i := 0) hm rfl (fun _ => rfl) (by omega)
  repeat' (first | refine c_seq ?_ | refine c_region ?_ | refine c_nil ?_ | refine k_then ?_ | ((first | refine st_op rfl rfl h ?_ | refine st_opn rfl h ?_); clear h a; (first | ((refine zs hm rfl rfl rfl rfl rfl rfl ?_); clear hm; intro w hm; (try simp only [Value.cells, splice, nz, ns, Nat.reduceAdd, Nat.reduceMul, Int.reduceAdd, Int.reduceToNat] at hm)) | refine does_fieldAddrL rfl ?_ | refine zl hm rfl rfl ?_); intro a h; (try simp only [Value.cells, splice, nz, Nat.reduceAdd, Nat.reduceMul, Int.reduceAdd, Int.reduceToNat, Int.reduceTMod] at h)))
  refine st_op rfl rfl h ?_; clear h a; refine does_funN hm en113 rfl (toStringS_ok _ _ _ (by omega)) (by repeat' (exact Sl.up (by assumption) hm)) ?_; clear hm; intro v w hm a h
  obtain ⟨p4, c4, rfl, hcc4, hcm4⟩ := row_slice (i := 0) hm rfl (fun _ => rfl) (by omega)
  repeat' (first | refine c_seq ?_ | refine c_region ?_ | refine c_nil ?_ | refine k_then ?_ | refine c_ret ?_ | ((first | refine st_op rfl rfl h ?_ | refine st_opn rfl h ?_); clear h a; (first | ((refine zs hm rfl rfl rfl rfl rfl rfl ?_); clear hm; intro w hm; (try simp only [Value.cells, splice, nz, ns, Nat.reduceAdd, Nat.reduceMul, Int.reduceAdd, Int.reduceToNat] at hm)) | refine does_fieldAddrL rfl ?_ | refine za hm rfl rfl ?_); intro a h; (try simp only [Value.cells, splice, nz, Nat.reduceAdd, Nat.reduceMul, Int.reduceAdd, Int.reduceToNat, Int.reduceTMod] at h)))
  obtain ⟨p4', c4', e4, g1, g2, g3⟩ := row_newsI (i := 0) hm rfl (fun _ => rfl) (by omega)
  obtain ⟨p3', c3', e3, k1, k2, k3⟩ := row_newsI (i := 1) hm rfl (fun _ => rfl) (by omega)
  cases e4
  cases e3
  first | exact k_ret (vs := [_]) rfl h ⟨rv_cellA (i := 3) hm rfl rfl rfl, trivial⟩ ⟨hm.below, _, _, _, _, rfl, ⟨k1, k2⟩, ⟨g1, g2⟩, k3, g3⟩ | exact k_ret (vs := [_]) rfl h ⟨rv_cellA (i := 2) hm rfl rfl rfl, trivial⟩ ⟨hm.below, _, _, _, _, rfl, ⟨k1, k2⟩, ⟨g1, g2⟩, k3, g3⟩
set_option maxHeartbeats 2000000 in
theorem eqCode_same (p q p' q' : Option Addr) (xs : List TInstruction) (ys : List ByteArray) (c d c' d' : Nat) (hxs : xs.length ≤ 1048576) (hys : ys.length ≤ 1048576) : FunP Try.prog 44 [.agg #[.slice p xs.length c, .slice q ys.length d], .agg #[.slice p' xs.length c', .slice q' ys.length d']]
    (fun H => (Sl H p eInstruction 3 xs ∧ Sl H q eS 1 ys) ∧ Sl H p' eInstruction 3 xs ∧ Sl H q' eS 1 ys) (.bool true) := by
  refine enterFunP Try.func44 rfl Try.ntmps44 rfl (fun W0 w a hp hm h => ?_)
  obtain ⟨⟨hx, hy⟩, hx', hy'⟩ := hp
  repeat' (first | refine c_seq ?_ | refine c_region ?_ | refine c_nil ?_ | refine k_then ?_ | refine c_skip ?_ | refine c_ret ?_ | refine c_condF h rfl ?_ | ((refine st_op rfl rfl h ?_); clear h a; (first | (refine does_box hm rfl rfl ?_; clear hm; intro b w hm) | ((first | refine zc hm en118 rfl (eqInstructionS_same _ _ _ _ _ (by omega)) ?_ | refine zc hm en119 rfl (eqStringS_same _ _ _ _ _ (by omega)) ?_); clear hm; intro w hm) | refine does_assign rfl ?_ | refine does_fieldAddrL rfl ?_ | refine zl hm rfl rfl ?_ | refine does_not rfl ?_); intro a h; (try simp only [Value.cells, splice, nz, Nat.reduceAdd, Nat.reduceMul, Int.reduceAdd, Int.reduceToNat, Int.reduceTMod] at h)))
  all_goals first | exact absurd rfl hc | ((refine k_ret1 rfl h rfl ⟨?_, hm.below⟩); rfl)
end Go.Proofs.Ytgoimincdbbafaa.St
