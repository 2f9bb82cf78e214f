/-
  Values of structs and arrays compared by ==.
-/
import Derived.Test.YtcbnegmmjflmcaaGreatJ1
import Derived.Laws.StructEq
import Derived.Test.YtcbnegmmjflmcaaGreatFns
import Derived.Test.YtcbnegmmjflmcaaGreatJ2
import Derived.Test.YtcbnegmmjflmcaaGreatJ3

section
set_option linter.unusedSimpArgs false
set_option linter.unusedVariables false
namespace Go.Proofs.YtcbnegmmjflmcaaGreat.St
open Go.RowKit

def kOk : Sk → Value → Bool
  | .int .i64, .int .i64 _ => true
  | .bool, .bool _ => true
  | .str, .string _ => true
  | _, _ => false
def kOks : List Sk → List Value → Bool
  | [], [] => true
  | k :: ks, v :: vs => kOk k v && kOks ks vs
  | _, _ => false

theorem kOks_len : ∀ {ks : List Sk} {vs : List Value}, kOks ks vs = true → vs.length = ks.length
  | [], [], _ => rfl
  | _ :: _, _ :: _, h => by
    simp only [kOks, Bool.and_eq_true] at h
    simp [kOks_len h.2]
  | [], _ :: _, h => by simp [kOks] at h
  | _ :: _, [], h => by simp [kOks] at h

theorem kOks_split : ∀ {ks ks' : List Sk} {vs : List Value}, kOks (ks ++ ks') vs = true → kOks ks (vs.take ks.length) = true ∧ kOks ks' (vs.drop ks.length) = true
  | [], ks', vs, h => ⟨by simp [kOks], by simpa using h⟩
  | k :: ks, ks', [], h => by simp [kOks] at h
  | k :: ks, ks', v :: vs, h => by
    simp only [List.cons_append, kOks, Bool.and_eq_true] at h
    obtain ⟨h1, h2⟩ := kOks_split h.2
    exact ⟨by simp [kOks, h.1, h1], by simpa using h2⟩

def eqB (P : Program) : Nat → TypeId → Bool
  | 0, _ => false
  | n + 1, t => (P.info? t).isSome && match P.underlying t with
    | some .bool => true
    | some (.int _) => true
    | some .string => true
    | some (.struct fs) => !P.stoodInHeld t && fs.toList.all fun f => f.name != "_" && eqB P n f.type
    | some (.array _ e) => eqB P n e
    | _ => false

noncomputable def vOf (P : Program) (t : TypeId) (cs : List Value) : Value := match P.underlying t with
  | some (.struct _) | some (.array _ _) => .agg cs.toArray
  | _ => cs.headD undef

section
variable {P : Program} {w : World}

theorem run_part {t : TypeId} {cs : List Value} {off n : Nat} (hi : (P.info? t).isSome = true) (hn : n = P.cellsOf t) (hl : off + n ≤ cs.length) (h1 : ∀ d, P.underlying t = some d → aggD d = false → n = 1) (hu : (P.underlying t).isSome = true) :
    (part t cs.toArray off).run P w = .ok (vOf P t ((cs.drop off).take n)) w := by
  obtain ⟨d, hd⟩ := Option.isSome_iff_exists.1 hu
  obtain ⟨i, hi'⟩ := Option.isSome_iff_exists.1 hi
  have hsz : (sizeOf t).run P w = .ok (P.cellsOf t) w := by simp [sizeOf, typeInfo, hi', Program.cellsOf]
  cases ha : aggD d with
  | true =>
    have hag : (isAgg t).run P w = .ok true w := by
      unfold isAgg
      rw [Sem.run_bind, run_underlying hd w]
      cases d <;> simp_all [aggD]
    have hv : vOf P t ((cs.drop off).take n) = .agg ((cs.drop off).take n).toArray := by
      unfold vOf
      rw [hd]
      cases d <;> simp_all [aggD]
    simp only [part, Sem.run_bind, hag, Result.andThen_ok, if_true, hsz, Sem.run_pure, hv]
    subst hn
    simp [List.extract_eq_take_drop]
  | false =>
    have hag : (isAgg t).run P w = .ok false w := by
      unfold isAgg
      rw [Sem.run_bind, run_underlying hd w]
      cases d <;> simp_all [aggD]
    have hn1 := h1 d hd ha
    have hlt : off < cs.length := by omega
    have hv : vOf P t ((cs.drop off).take n) = cs[off] := by
      have : (cs.drop off).take n = [cs[off]] := by
        rw [hn1, List.drop_eq_getElem_cons hlt]; rfl
      unfold vOf
      rw [hd, this]
      cases d <;> simp_all [aggD]
    simp [part, Sem.run_bind, hag, hv, hlt]

noncomputable def eqL (d : Nat) (xs ys : List Value) : List (Nat × TypeId) → Sem Bool
  | [] => pure true
  | (o, t) :: r => do
    let a ← part t xs.toArray o
    let b ← part t ys.toArray o
    let q ← Op.equalIn d t a b
    if (!q) = true then pure false else eqL d xs ys r

theorem eqFields_eq (d : Nat) (xs ys : List Value) : ∀ (fs : List Field), fs.all (fun f => f.name != "_") = true → (Op.eqFields d xs.toArray ys.toArray fs) = eqL d xs ys (fs.map fun f => (f.offset, f.type))
  | [], _ => rfl
  | f :: fs, h => by
    simp only [List.all_cons, Bool.and_eq_true, bne_iff_ne, ne_eq] at h
    simp only [Op.eqFields, List.map_cons, eqL, ne_eq, h.1, not_false_eq_true, if_true]
    rw [eqFields_eq d xs ys fs (by simpa using h.2)]

theorem run_equalIn_array (d : Nat) {t e : TypeId} {m s : Nat} (xs ys : List Value) (ht : P.underlying t = some (.array m e)) (hs : ∀ w, (sizeOf e).run P w = .ok s w) :
    (Op.equalIn (d + 1) t (.agg xs.toArray) (.agg ys.toArray)).run P w = (eqL d xs ys ((List.range m).map fun i => (i * s, e))).run P w := by
  simp only [Op.equalIn, Sem.run_bind, run_underlying ht, Result.andThen_ok, hs]
  rw [Std.Legacy.Range.forIn_eq_forIn_range']
  simp only [Std.Legacy.Range.size, Nat.sub_zero, Nat.add_sub_cancel, Nat.div_one]
  rw [List.range_eq_range']
  generalize List.range' 0 m = is
  induction is generalizing w with
  | nil => simp [eqL]
  | cons i is ih =>
    simp only [List.forIn_cons, List.map_cons, eqL, Sem.run_bind, Sem.run_ite]
    generalize (part e xs.toArray (i * s)).run P w = r1
    cases r1 with
    | ok a w1 =>
      simp only [Result.andThen_ok]
      generalize (part e ys.toArray (i * s)).run P w1 = r2
      cases r2 with
      | ok b w2 =>
        simp only [Result.andThen_ok]
        generalize (Op.equalIn d e a b).run P w2 = r3
        cases r3 with
        | ok r w3 =>
          cases r
          · simp only [Result.andThen_ok, Bool.not_false, if_true, Sem.run_pure]
          · simp only [Result.andThen_ok, Bool.not_true, Bool.false_eq_true, if_false, Sem.run_pure]
            exact ih
        | halt x w3 => simp [Result.andThen]
      | halt x w2 => simp [Result.andThen]
    | halt x w1 => simp [Result.andThen]

theorem dB_drop {xs ys : List Value} {off k : Nat} (hx : off + k ≤ xs.length) (hy : off + k ≤ ys.length) :
    (xs.drop off = ys.drop off) ↔ ((xs.drop off).take k = (ys.drop off).take k ∧ xs.drop (off + k) = ys.drop (off + k)) := by
  constructor
  · intro h
    refine ⟨by rw [h], ?_⟩
    rw [← List.drop_drop, ← List.drop_drop, h]
  · rintro ⟨h1, h2⟩
    rw [← List.drop_drop, ← List.drop_drop] at h2
    rw [← List.take_append_drop k (xs.drop off), ← List.take_append_drop k (ys.drop off), h1, h2]

theorem dB_congr {p q : Prop} (h : p ↔ q) : dB p = dB q := by
  by_cases hp : p
  · rw [bT hp, bT (h.1 hp)]
  · rw [bF hp, bF (fun hq => hp (h.2 hq))]

theorem flat_one {n : Nat} {t : TypeId} {ks : List Sk} (h : flatT P n t = some ks) {d : TypeDesc} (hd : P.underlying t = some d) (ha : aggD d = false) : ks.length = 1 := by
  cases n with
  | zero => simp [flatT] at h
  | succ n =>
    unfold flatT at h
    rw [hd] at h
    cases d <;> simp_all [aggD] <;> (subst h; rfl)

theorem flat_und {n : Nat} {t : TypeId} {ks : List Sk} (h : flatT P n t = some ks) : (P.underlying t).isSome = true := by
  cases n with
  | zero => simp [flatT] at h
  | succ n =>
    unfold flatT at h
    cases hu : P.underlying t with
    | none => simp [hu] at h
    | some d => rfl

theorem eq_parts {n d : Nat} (ih : ∀ t ks, flatT P n t = some ks → eqB P n t = true → ∀ xs ys, kOks ks xs = true → kOks ks ys = true → ∀ w, (Op.equalIn d t (vOf P t xs) (vOf P t ys)).run P w = .ok (dB (xs = ys)) w) (xs ys : List Value) :
    ∀ (l : List (Nat × TypeId)) (off : Nat) (ks : List Sk), flatPs P (flatT P n) l off = some ks → (∀ x ∈ l, eqB P n x.2 = true) → kOks ks (xs.drop off) = true → kOks ks (ys.drop off) = true → off ≤ xs.length → off ≤ ys.length →
      ∀ w, (eqL d xs ys l).run P w = .ok (dB (xs.drop off = ys.drop off)) w
  | [], off, ks, h1, _, hx, hy, hxl, hyl, w => by
    simp only [flatPs, Option.some.injEq] at h1
    subst h1
    have e1 : xs.drop off = [] := List.eq_nil_of_length_eq_zero (by simpa using kOks_len hx)
    have e2 : ys.drop off = [] := List.eq_nil_of_length_eq_zero (by simpa using kOks_len hy)
    rw [e1, e2, bT rfl]
    rfl
  | (o, t) :: l, off, ks, h1, h2, hx, hy, hxl, hyl, w => by
    simp only [flatPs] at h1
    obtain ⟨rfl, h1⟩ : o = off ∧ _ := by
      split at h1
      · exact ⟨‹_›, h1⟩
      · cases h1
    split at h1
    · rename_i k1 hk1
      split at h1
      · rename_i hlen
        split at h1
        · rename_i k2 hk2
          simp only [Option.some.injEq] at h1
          subst h1
          obtain ⟨hx1, hx2⟩ := kOks_split hx
          obtain ⟨hy1, hy2⟩ := kOks_split hy
          rw [List.drop_drop] at hx2 hy2
          have hlx := kOks_len hx
          have hly := kOks_len hy
          simp only [List.length_drop, List.length_append] at hlx hly
          have hb := h2 (o, t) (List.mem_cons_self ..)
          have hinfo : (P.info? t).isSome = true := by
            cases n with
            | zero => simp [eqB] at hb
            | succ n => simp only [eqB, Bool.and_eq_true] at hb; exact hb.1
          have p1 := fun w => run_part (P := P) (w := w) (t := t) (cs := xs) (off := o) hinfo hlen (by omega) (fun d hd ha => flat_one hk1 hd ha) (flat_und hk1)
          have p2 := fun w => run_part (P := P) (w := w) (t := t) (cs := ys) (off := o) hinfo hlen (by omega) (fun d hd ha => flat_one hk1 hd ha) (flat_und hk1)
          have q := ih t k1 hk1 hb _ _ hx1 hy1
          have hr := eq_parts ih xs ys l (o + k1.length) k2 hk2 (fun x hx => h2 x (List.mem_cons_of_mem _ hx)) hx2 hy2 (by omega) (by omega)
          simp only [eqL, Sem.run_bind, p1, p2, q, Result.andThen_ok, Sem.run_ite]
          have hiff := dB_drop (xs := xs) (ys := ys) (off := o) (k := k1.length) (by omega) (by omega)
          by_cases he : (xs.drop o).take k1.length = (ys.drop o).take k1.length
          · rw [bT he]
            simp only [Bool.not_true, Bool.false_eq_true, if_false, hr]
            rw [dB_congr (hiff.trans ⟨fun h => h.2, fun h => ⟨he, h⟩⟩)]
          · rw [bF he, bF (fun h => he (hiff.1 h).1)]
            simp
        · cases h1
      · cases h1
    · cases h1

theorem eq_run : ∀ (n d : Nat), n ≤ d → ∀ (t : TypeId) (ks : List Sk), flatT P n t = some ks → eqB P n t = true → ∀ xs ys, kOks ks xs = true → kOks ks ys = true → ∀ w, (Op.equalIn d t (vOf P t xs) (vOf P t ys)).run P w = .ok (dB (xs = ys)) w
  | 0, _, _, t, ks, h, _, _, _, _, _, _ => by simp [flatT] at h
  | n + 1, 0, hd, _, _, _, _, _, _, _, _, _ => by omega
  | n + 1, d + 1, hd, t, ks, h, hb, xs, ys, hx, hy, w => by
    have ih := eq_run n d (by omega)
    unfold flatT at h
    simp only [eqB, Bool.and_eq_true] at hb
    obtain ⟨hinfo, hb⟩ := hb
    cases hu : P.underlying t with
    | none => simp [hu] at h
    | some dsc =>
      have hlx := kOks_len hx
      have hly := kOks_len hy
      cases dsc <;> simp only [hu] at h hb <;> (try (have h' := h; simp at h'; done)) <;> (try (have h' := hb; simp at h'; done))
      case bool =>
        cases h
        simp only [List.length_cons, List.length_nil] at hlx hly
        obtain ⟨x, rfl⟩ := List.length_eq_one_iff.1 hlx
        obtain ⟨y, rfl⟩ := List.length_eq_one_iff.1 hly
        cases x <;> simp [kOks, kOk] at hx
        cases y <;> simp [kOks, kOk] at hy
        rename_i a b
        simp only [vOf, hu, List.headD_cons, run_equalIn_bool hu]
        congr 1
        cases a <;> cases b <;> first | (rw [bT rfl]; rfl) | (rw [bF (by simp)]; rfl)
      case int k =>
        cases h
        simp only [List.length_cons, List.length_nil] at hlx hly
        obtain ⟨x, rfl⟩ := List.length_eq_one_iff.1 hlx
        obtain ⟨y, rfl⟩ := List.length_eq_one_iff.1 hly
        have hk : ∀ v, kOks [.int k] [v] = true → k = .i64 ∧ ∃ m, v = .int .i64 m := fun v hv => by
          simp only [kOks, Bool.and_true] at hv
          cases k <;> cases v <;> (try (simp [kOk] at hv; done))
          rename_i j m
          cases j <;> (try (simp [kOk] at hv; done))
          exact ⟨rfl, _, rfl⟩
        obtain ⟨rfl, a, rfl⟩ := hk x hx
        obtain ⟨_, b, rfl⟩ := hk y hy
        simp only [vOf, hu, List.headD_cons, run_equalIn_int w d t .i64 .i64 a b hu]
        congr 1
        by_cases hab : a = b
        · subst hab; rw [bT rfl]; simp
        · rw [bF (by simpa using hab)]; simpa using hab
      case string =>
        cases h
        simp only [List.length_cons, List.length_nil] at hlx hly
        obtain ⟨x, rfl⟩ := List.length_eq_one_iff.1 hlx
        obtain ⟨y, rfl⟩ := List.length_eq_one_iff.1 hly
        cases x <;> simp [kOks, kOk] at hx
        cases y <;> simp [kOks, kOk] at hy
        rename_i a b
        have hr := run_equalIn_string (P := P) w d t a b hu
        simp only [vOf, hu, List.headD_cons, hr]
        congr 1
        by_cases hab : a = b
        · subst hab; rw [bT rfl, beq_self_eq_true]
        · rw [bF (by simpa using hab)]
          refine Bool.eq_false_iff.2 fun h => hab ?_
          have h2 := eq_of_beq h
          rw [ByteArray.toList_eq, ByteArray.toList_eq] at h2
          obtain ⟨⟨a⟩⟩ := a
          obtain ⟨⟨b⟩⟩ := b
          simpa using h2
      case struct fs =>
        simp only [Bool.and_eq_true, Bool.not_eq_true'] at hb
        obtain ⟨hst, hall⟩ := hb
        have hall' := fun f hf => by have := List.all_eq_true.1 hall f hf; simpa only [Bool.and_eq_true] using this
        split at h
        · rename_i k1 hk1
          split at h
          · simp only [Option.some.injEq] at h
            subst h
            have hfo : P.fieldsOf t = fs := by simp [Program.fieldsOf, hu]
            have hv : ∀ cs, vOf P t cs = .agg cs.toArray := fun cs => by simp [vOf, hu]
            rw [hv, hv, run_equalIn_struct w d t _ _ (by rw [hfo]; exact hu) hst, hfo, eqFields_eq d xs ys fs.toList (List.all_eq_true.2 fun f hf => (hall' f hf).1)]
            have := eq_parts ih xs ys _ 0 k1 hk1 (fun x hx => by
              obtain ⟨f, hf, rfl⟩ := List.mem_map.1 hx
              exact (hall' f hf).2) (by simpa using hx) (by simpa using hy) (Nat.zero_le _) (Nat.zero_le _) w
            simpa using this
          · cases h
        · cases h
      case array m e =>
        split at h
        · rename_i k1 hk1
          split at h
          · simp only [Option.some.injEq] at h
            subst h
            have hie : (P.info? e).isSome = true := by
              cases n with
              | zero => simp [eqB] at hb
              | succ n => simp only [eqB, Bool.and_eq_true] at hb; exact hb.1
            obtain ⟨i, hi'⟩ := Option.isSome_iff_exists.1 hie
            have hv : ∀ cs, vOf P t cs = .agg cs.toArray := fun cs => by simp [vOf, hu]
            rw [hv, hv, run_equalIn_array d xs ys hu (s := P.cellsOf e) (fun w => by simp [sizeOf, typeInfo, hi', Program.cellsOf])]
            have := eq_parts ih xs ys _ 0 k1 hk1 (fun x hx => by
              obtain ⟨f, hf, rfl⟩ := List.mem_map.1 hx
              exact hb) (by simpa using hx) (by simpa using hy) (Nat.zero_le _) (Nat.zero_le _) w
            simpa using this
          · cases h
        · cases h

/-- values of this type are compared cell by cell -/
class EqT (P : Program) (t : TypeId) (ks : outParam (List Sk)) : Prop where
  out : flatT P 9 t = some ks ∧ eqB P 9 t = true ∧ P.eqGuardType P.depth t = false ∧ (match P.underlying t with | some (.struct _) | some (.array _ _) => true | _ => false) = true

variable {E : Env} {Φ : Value → World → Prop} {ty t t' : TypeId} {x y : Operand}
theorem does_eqlA {ks : List Sk} {xs ys : List Value} [ht : EqT P t ks] (hx : ev E x = some (.agg xs.toArray)) (hy : ev E y = some (.agg ys.toArray)) (h1 : kOks ks xs = true) (h2 : kOks ks ys = true) (k : Φ (.bool (dB (xs = ys))) w) :
    Does P (.binOp .eql t x y t') ty E w Φ := by
  obtain ⟨hf, hb, hg, hag⟩ := ht.out
  have hv : ∀ cs, vOf P t cs = .agg cs.toArray := fun cs => by
    unfold vOf
    split at hag <;> simp_all
  have hr := eq_run 9 10000 (by omega) t ks hf hb xs ys h1 h2 w
  rw [hv, hv] at hr
  have hgr := run_eqGuard_agg (P := P) w .eql t x y xs.toArray ys.toArray hg
  refine ⟨fun ρ hρ => ?_⟩
  have : (execOp ρ (mk (.binOp .eql t x y t') ty)).run P w = .ok (.value (.bool (dB (xs = ys)))) w := by
    simp only [execOp, mk, hρ _ _ hx, hρ _ _ hy, Sem.run_bind, hgr, Result.andThen_ok, run_eql_struct, hr, Sem.run_pure]
  rw [this]; exact k
end
end Go.Proofs.YtcbnegmmjflmcaaGreat.St
end

section
/-
  Which types' values are compared cell by cell.
-/
set_option linter.unusedSimpArgs false
set_option linter.unusedVariables false
namespace Go.Proofs.YtcbnegmmjflmcaaGreat.St
instance : EqT Tryz.prog 37 [.int .i64, .int .i64, .int .i64] := ⟨by kernel_rfl, by kernel_rfl, by kernel_rfl, by kernel_rfl⟩
end Go.Proofs.YtcbnegmmjflmcaaGreat.St
end

section
/-
  The functions and types that the first list (Fns) leaves out.
-/
set_option linter.unusedSimpArgs false
set_option linter.unusedVariables false
namespace Go.Proofs.YtcbnegmmjflmcaaGreat.St


end Go.Proofs.YtcbnegmmjflmcaaGreat.St
end

section
/-
  Contracts of the functions on points.
-/
set_option linter.unusedSimpArgs false
set_option linter.unusedVariables false
namespace Go.Proofs.YtcbnegmmjflmcaaGreat.St
open Go.RowKit
set_option maxHeartbeats 2000000 in
theorem clamped1_ok (n : Int) : Fun Tryz.prog 74 [I n] (I (max (-1000000) (min n 1000000))) := by
  refine enterFun Tryz.func74 rfl Tryz.ntmps74 rfl (fun W0 w a hm h => ?_)
  repeat' (first | refine c_seq ?_ | refine c_region ?_ | refine c_nil ?_ | refine k_then ?_ | refine c_ret ?_ | ((refine st_op rfl rfl h ?_); clear h a; (first | (show Does _ (.call _) _ _ _ _; ((refine does_funM hm en36 rfl (clamp_ok _ _ _) ?_); clear hm; intro w hm)) | (show Does _ (.move _) _ _ _ _; refine does_move rfl ?_) | (show Does _ (.assign _) _ _ _ _; refine does_assign rfl ?_)); intro a h; (try simp only [Value.cells, splice, nz, Nat.reduceAdd, Nat.reduceMul, Int.reduceAdd, Int.reduceToNat, Int.reduceTMod] at h)))
  all_goals (refine k_ret1 rfl h rfl ⟨?_, hm.below⟩)
  all_goals (rfl)
set_option maxHeartbeats 2000000 in
theorem each_clamped_ok (x y z : Int) : Fun Tryz.prog 73 [.agg #[I x, I y, I z], .func (.func 74) #[] #[]] (.agg #[I (max (-1000000) (min x 1000000)), I (max (-1000000) (min y 1000000)), I (max (-1000000) (min z 1000000))]) := by
  refine enterFun Tryz.func73 rfl Tryz.ntmps73 rfl (fun W0 w a hm h => ?_)
  repeat' (first | refine c_seq ?_ | refine c_region ?_ | refine c_nil ?_ | refine k_then ?_ | refine c_ret ?_ | ((first | refine st_op rfl rfl h ?_ | refine st_opn rfl h ?_); clear h a; (first | (show Does _ (.box _ _) _ _ _ _; (refine does_box hm rfl rfl ?_; clear hm; intro b w hm)) | (show Does _ (.alloc _) _ _ _ _; (refine does_alloc hm ?_; clear hm; intro b w hm)) | (show Does _ (.store _ _ _) _ _ _ _; ((refine zs hm rfl rfl rfl rfl rfl rfl ?_); clear hm; intro w hm; (try simp only [Value.cells, splice, nz, ns, Nat.reduceAdd, Nat.reduceMul, Int.reduceAdd, Int.reduceToNat] at hm)))); intro a h; (try simp only [Value.cells, splice, nz, Nat.reduceAdd, Nat.reduceMul, Int.reduceAdd, Int.reduceToNat, Int.reduceTMod] at h)) | (apply c_drawM (id := 1) 13 [.val _, .val _, .val _, .val _, .val _, .val _, .val _, .val _, .val _, .val _, .val _, .val _, .val _] mixed (by kernel_rfl) (h := h) (hm := hm); (case vcs => (repeat' (first | exact vcs_nil | refine vcs_cons ?_ ?_ | (intro w hm; (repeat (first | refine dep_val ?_ | refine dep_nil ?_)); first | exact vc_skip rfl | exact vc_alloc rfl | exact vc_box rfl rfl rfl | exact vc_buildSlice rfl rfl rfl rfl | exact vc_makeSlice (by omega) (by omega) rfl rfl rfl | exact vc_store rfl rfl rfl rfl rfl rfl rfl rfl rfl rfl | (apply vc_run rfl; (first | (show Does _ (.call _) _ _ _ _; ((refine does_funVX rfl rfl rfl (clamped1_ok _) ?_))) | (show Does _ (.move _) _ _ _ _; refine does_move rfl ?_) | (show Does _ (.fieldAddr _ _ _) _ _ _ _; (refine does_fieldAddrL rfl ?_)) | (show Does _ (.load _ _) _ _ _ _; (refine does_loadO 1 hm rfl rfl rfl ?_)) | (show Does _ (.build _ _) _ _ _ _; refine does_build rfl rfl ?_)); (first | exact ⟨ext_refl _, rfl⟩ | exact fun _ hx => ⟨hx, rfl⟩)))))); (case hup => kernel_rfl); (case hown => kernel_rfl); (case hnp => kernel_rfl); clear h hm a; intro  w hm; (try simp only [List.map_nil, List.nil_append] at hm); (repeat (first | refine dep_val ?_ | refine dep_nil ?_)); intro a h; (try simp only [Value.cells, splice, nqq, Nat.reduceAdd, Nat.reduceMul, Int.reduceAdd, Int.reduceToNat, Int.reduceTMod] at h)))
  all_goals (refine k_ret (vs := [_]) rfl h ⟨rv_cellA (i := 0) hm rfl rfl rfl, trivial⟩ ⟨?_, hm.below⟩)
  all_goals (rfl)
set_option maxHeartbeats 2000000 in
theorem clamped_ok (x y z : Int) : Fun Tryz.prog 55 [.agg #[I x, I y, I z]] (.agg #[I (max (-1000000) (min x 1000000)), I (max (-1000000) (min y 1000000)), I (max (-1000000) (min z 1000000))]) := by
  refine enterFun Tryz.func55 rfl Tryz.ntmps55 rfl (fun W0 w a hm h => ?_)
  repeat' (first | refine c_seq ?_ | refine c_region ?_ | refine c_nil ?_ | refine k_then ?_ | refine c_ret ?_ | ((first | refine st_op rfl rfl h ?_ | refine st_opn rfl h ?_); clear h a; (first | (show Does _ (.box _ _) _ _ _ _; (refine does_box hm rfl rfl ?_; clear hm; intro b w hm)) | (show Does _ (.alloc _) _ _ _ _; (refine does_alloc hm ?_; clear hm; intro b w hm)) | (show Does _ (.store _ _ _) _ _ _ _; ((refine zs hm rfl rfl rfl rfl rfl rfl ?_); clear hm; intro w hm; (try simp only [Value.cells, splice, nz, ns, Nat.reduceAdd, Nat.reduceMul, Int.reduceAdd, Int.reduceToNat] at hm))) | (show Does _ (.call _) _ _ _ _; ((refine does_funM hm en73 rfl (each_clamped_ok _ _ _) ?_); clear hm; intro w hm)) | (show Does _ (.load _ _) _ _ _ _; (refine za hm rfl rfl ?_))); intro a h; (try simp only [Value.cells, splice, nz, Nat.reduceAdd, Nat.reduceMul, Int.reduceAdd, Int.reduceToNat, Int.reduceTMod] at h)))
  all_goals (refine k_ret (vs := [_]) rfl h ⟨rv_cellA (i := 0) hm rfl rfl rfl, trivial⟩ ⟨?_, hm.below⟩)
  all_goals (rfl)
end Go.Proofs.YtcbnegmmjflmcaaGreat.St
end
