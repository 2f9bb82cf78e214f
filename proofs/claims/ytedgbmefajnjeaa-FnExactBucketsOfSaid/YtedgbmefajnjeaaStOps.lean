/-
  The rules of single operations: what each leaves, given what is known of its operands.
-/
import Derived.Test.YtedgbmefajnjeaaSt
import Derived.LoopN
set_option linter.unusedSimpArgs false
set_option linter.unusedVariables false
namespace Go.Proofs.Ytedgbmefajnjeaa.St
open Go.RowKit Go.Proofs.Ytedgbmefajnjeaa.Co

section
variable {P : Program} {E : Env} {w : World} {Φ : Value → World → Prop} {ty t t' : TypeId} {x y c : Operand}

/-- two whole numbers -/
class NMBin (P : Program) (op : BinOp) (t : TypeId) (u v : Value) : Prop where
  out : NM P (binOp op t u v)
instance {op : BinOp} {j k : IntKind} {m n : Int} : NMBin P op t (.int j m) (.int k n) := ⟨by
  cases op <;> simp only [binOp, Op.intArith, Op.intCmp, Op.intBits, Op.intDiv, Op.shift] <;>
  (repeat' (first | exact trivial | exact nm_runtimePanic | refine nm_ite ?_ ?_ | refine nm_bind ?_ (fun _ => ?_) | split))⟩
instance : NMOp P (.unOp .not t x) := ⟨fun ρ _ _ => nm_v (by
  unfold Op.unary
  repeat' (first | exact trivial | split))⟩

theorem does_move {v : Value} (hx : ev E x = some v) (k : Φ v w) : Does P (.move x) ty E w Φ := by
  refine does_of (fun ρ hρ => ?_)
  show Φ (ρ x) w
  rw [hρ _ _ hx]; exact k

theorem does_assign {v : Value} (hx : ev E x = some v) (k : Φ v w) : Does P (.assign x) ty E w Φ := by
  refine does_of (fun ρ hρ => ?_)
  show Φ (ρ x) w
  rw [hρ _ _ hx]; exact k

theorem does_extract {i : Nat} {vs : List Value} {v : Value} (hx : ev E x = some (.tuple vs.toArray)) (hv : vs[i]? = some v) (k : Φ v w) : Does P (.extract x i) ty E w Φ := by
  refine does_of (fun ρ hρ => ?_)
  have : (execOp ρ (mk (.extract x i) ty)).run P w = .ok (.value v) w := by simp [execOp, mk, Instr.extract, hρ _ _ hx, hv]
  rw [this]; exact k

theorem does_pickT {v : Value} (hc : ev E c = some (.bool true)) (hx : ev E x = some v) (k : Φ v w) : Does P (.pick c x y) ty E w Φ := by
  refine does_of (fun ρ hρ => ?_)
  have : (execOp ρ (mk (.pick c x y) ty)).run P w = .ok (.value v) w := by simp [execOp, mk, asBool, hρ _ _ hc, hρ _ _ hx]
  rw [this]; exact k

theorem does_pickF {v : Value} (hc : ev E c = some (.bool false)) (hy : ev E y = some v) (k : Φ v w) : Does P (.pick c x y) ty E w Φ := by
  refine does_of (fun ρ hρ => ?_)
  have : (execOp ρ (mk (.pick c x y) ty)).run P w = .ok (.value v) w := by simp [execOp, mk, asBool, hρ _ _ hc, hρ _ _ hy]
  rw [this]; exact k

/-- a binary operation that only computes -/
theorem does_bin {op : BinOp} {u v r : Value} [hn : NMBin P op t u v] (hx : ev E x = some u) (hy : ev E y = some v) (hg : eqGuard op t x y u v = pure ()) (hr : (binOp op t u v).run P w = .ok r w) (k : Φ r w) :
    Does P (.binOp op t x y t') ty E w Φ := by
  refine ⟨fun ρ hρ => ?_, fun ρ hρ => nm_events ?_ w⟩
  · have : (execOp ρ (mk (.binOp op t x y t') ty)).run P w = .ok (.value r) w := by simp [execOp, mk, hρ _ _ hx, hρ _ _ hy, hg, hr]
    rw [this]; exact k
  · refine nm_v (s := do eqGuard op t x y (ρ x) (ρ y); binOp op t (ρ x) (ρ y)) (nm_bind ?_ fun _ => ?_)
    · rw [hρ _ _ hx, hρ _ _ hy, hg]; exact trivial
    · rw [hρ _ _ hx, hρ _ _ hy]; exact hn.out

theorem does_add {m n : Int} (hx : ev E x = some (.int .i64 m)) (hy : ev E y = some (.int .i64 n)) (hr : -9223372036854775808 ≤ m + n ∧ m + n ≤ 9223372036854775807) (k : Φ (.int .i64 (m + n)) w) :
    Does P (.binOp .add t x y t') ty E w Φ :=
  does_bin hx hy rfl (by simp [go_sem, Op.intArith, IntWalk.i64_in _ hr]) k
theorem does_addw {j : IntKind} {m n : Int} (hx : ev E x = some (.int j m)) (hy : ev E y = some (.int j n)) (k : Φ (.int j (j.wrap (m + n))) w) :
    Does P (.binOp .add t x y t') ty E w Φ :=
  does_bin hx hy rfl (by simp [go_sem, Op.intArith]) k
theorem does_sub {m n : Int} (hx : ev E x = some (.int .i64 m)) (hy : ev E y = some (.int .i64 n)) (hr : -9223372036854775808 ≤ m - n ∧ m - n ≤ 9223372036854775807) (k : Φ (.int .i64 (m - n)) w) :
    Does P (.binOp .sub t x y t') ty E w Φ :=
  does_bin hx hy rfl (by simp [go_sem, Op.intArith, IntWalk.i64_in _ hr]) k
theorem does_subw {j : IntKind} {m n : Int} (hx : ev E x = some (.int j m)) (hy : ev E y = some (.int j n)) (k : Φ (.int j (j.wrap (m - n))) w) :
    Does P (.binOp .sub t x y t') ty E w Φ :=
  does_bin hx hy rfl (by simp [go_sem, Op.intArith]) k
theorem does_mul {m n : Int} (hx : ev E x = some (.int .i64 m)) (hy : ev E y = some (.int .i64 n)) (hr : -9223372036854775808 ≤ m * n ∧ m * n ≤ 9223372036854775807) (k : Φ (.int .i64 (m * n)) w) :
    Does P (.binOp .mul t x y t') ty E w Φ :=
  does_bin hx hy rfl (by simp [go_sem, Op.intArith, IntWalk.i64_in _ hr]) k
theorem does_mulw {j : IntKind} {m n : Int} (hx : ev E x = some (.int j m)) (hy : ev E y = some (.int j n)) (k : Φ (.int j (j.wrap (m * n))) w) :
    Does P (.binOp .mul t x y t') ty E w Φ :=
  does_bin hx hy rfl (by simp [go_sem, Op.intArith]) k
theorem does_quo {m n : Int} (hx : ev E x = some (.int .i64 m)) (hy : ev E y = some (.int .i64 n)) (hr : -9223372036854775808 ≤ m ∧ m ≤ 9223372036854775807 ∧ 1 ≤ n) (k : Φ (.int .i64 (m.tdiv n)) w) :
    Does P (.binOp .quo t x y t') ty E w Φ :=
  does_bin hx hy rfl (by
    have : n ≠ 0 := by omega
    simp [go_sem, Op.intDiv, this, IntWalk.i64_quo' _ _ hr]) k
theorem does_rem {j : IntKind} {m n : Int} (hx : ev E x = some (.int j m)) (hy : ev E y = some (.int j n)) (hr : n ≠ 0) (k : Φ (.int j (m.tmod n)) w) :
    Does P (.binOp .rem t x y t') ty E w Φ :=
  does_bin hx hy rfl (by simp [go_sem, Op.intDiv, hr]) k
theorem does_not {b : Bool} (hx : ev E x = some (.bool b)) (k : Φ (.bool (!b)) w) : Does P (.unOp .not t x) ty E w Φ := by
  refine does_of (fun ρ hρ => ?_)
  have : (execOp ρ (mk (.unOp .not t x) ty)).run P w = .ok (.value (.bool (!b))) w := by simp [execOp, mk, hρ _ _ hx, Op.unary]
  rw [this]; exact k

theorem does_lss {j : IntKind} {m n : Int} (hx : ev E x = some (.int j m)) (hy : ev E y = some (.int j n)) (k : Φ (.bool (dB (m < n))) w) : Does P (.binOp .lss t x y t') ty E w Φ :=
  does_bin hx hy rfl (by simp [binOp, Op.intCmp, dB_eq]) k
theorem does_leq {j : IntKind} {m n : Int} (hx : ev E x = some (.int j m)) (hy : ev E y = some (.int j n)) (k : Φ (.bool (dB (m ≤ n))) w) : Does P (.binOp .leq t x y t') ty E w Φ :=
  does_bin hx hy rfl (by simp [binOp, Op.intCmp, dB_eq]) k
theorem does_gtr {j : IntKind} {m n : Int} (hx : ev E x = some (.int j m)) (hy : ev E y = some (.int j n)) (k : Φ (.bool (dB (n < m))) w) : Does P (.binOp .gtr t x y t') ty E w Φ :=
  does_bin hx hy rfl (by simp [binOp, Op.intCmp, dB_eq]) k
theorem does_geq {j : IntKind} {m n : Int} (hx : ev E x = some (.int j m)) (hy : ev E y = some (.int j n)) (k : Φ (.bool (dB (n ≤ m))) w) : Does P (.binOp .geq t x y t') ty E w Φ :=
  does_bin hx hy rfl (by simp [binOp, Op.intCmp, dB_eq]) k
theorem does_eql {j : IntKind} {m n : Int} (hx : ev E x = some (.int j m)) (hy : ev E y = some (.int j n)) (k : Φ (.bool (dB (m = n))) w) : Does P (.binOp .eql t x y t') ty E w Φ :=
  does_bin hx hy rfl (by simp [binOp, Op.intCmp, dB_eq]; rfl) k
theorem does_neq {j : IntKind} {m n : Int} (hx : ev E x = some (.int j m)) (hy : ev E y = some (.int j n)) (k : Φ (.bool (dB (m ≠ n))) w) : Does P (.binOp .neq t x y t') ty E w Φ :=
  does_bin hx hy rfl (by simp [binOp, Op.intCmp, dB_eq]; rfl) k
theorem run_equalIn_bool (hu : P.underlying t = some .bool) (d : Nat) (m n : Bool) : (Op.equalIn (d + 1) t (.bool m) (.bool n)).run P w = .ok (m == n) w := by
  simp [Op.equalIn, run_underlying hu]
/-! ### Comparisons that the bounds decide -/
theorem does_lssT {j : IntKind} {m n : Int} (hx : ev E x = some (.int j m)) (hy : ev E y = some (.int j n)) (hc : (m < n)) (k : Φ (.bool true) w) : Does P (.binOp .lss t x y t') ty E w Φ :=
  does_lss hx hy (by rw [bT hc]; exact k)
theorem does_lssF {j : IntKind} {m n : Int} (hx : ev E x = some (.int j m)) (hy : ev E y = some (.int j n)) (hc : ¬ (m < n)) (k : Φ (.bool false) w) : Does P (.binOp .lss t x y t') ty E w Φ :=
  does_lss hx hy (by rw [bF hc]; exact k)
theorem does_leqT {j : IntKind} {m n : Int} (hx : ev E x = some (.int j m)) (hy : ev E y = some (.int j n)) (hc : (m ≤ n)) (k : Φ (.bool true) w) : Does P (.binOp .leq t x y t') ty E w Φ :=
  does_leq hx hy (by rw [bT hc]; exact k)
theorem does_leqF {j : IntKind} {m n : Int} (hx : ev E x = some (.int j m)) (hy : ev E y = some (.int j n)) (hc : ¬ (m ≤ n)) (k : Φ (.bool false) w) : Does P (.binOp .leq t x y t') ty E w Φ :=
  does_leq hx hy (by rw [bF hc]; exact k)
theorem does_gtrT {j : IntKind} {m n : Int} (hx : ev E x = some (.int j m)) (hy : ev E y = some (.int j n)) (hc : (n < m)) (k : Φ (.bool true) w) : Does P (.binOp .gtr t x y t') ty E w Φ :=
  does_gtr hx hy (by rw [bT hc]; exact k)
theorem does_gtrF {j : IntKind} {m n : Int} (hx : ev E x = some (.int j m)) (hy : ev E y = some (.int j n)) (hc : ¬ (n < m)) (k : Φ (.bool false) w) : Does P (.binOp .gtr t x y t') ty E w Φ :=
  does_gtr hx hy (by rw [bF hc]; exact k)
theorem does_geqT {j : IntKind} {m n : Int} (hx : ev E x = some (.int j m)) (hy : ev E y = some (.int j n)) (hc : (n ≤ m)) (k : Φ (.bool true) w) : Does P (.binOp .geq t x y t') ty E w Φ :=
  does_geq hx hy (by rw [bT hc]; exact k)
theorem does_geqF {j : IntKind} {m n : Int} (hx : ev E x = some (.int j m)) (hy : ev E y = some (.int j n)) (hc : ¬ (n ≤ m)) (k : Φ (.bool false) w) : Does P (.binOp .geq t x y t') ty E w Φ :=
  does_geq hx hy (by rw [bF hc]; exact k)
theorem does_eqlT {j : IntKind} {m n : Int} (hx : ev E x = some (.int j m)) (hy : ev E y = some (.int j n)) (hc : (m = n)) (k : Φ (.bool true) w) : Does P (.binOp .eql t x y t') ty E w Φ :=
  does_eql hx hy (by rw [bT hc]; exact k)
theorem does_eqlF {j : IntKind} {m n : Int} (hx : ev E x = some (.int j m)) (hy : ev E y = some (.int j n)) (hc : ¬ (m = n)) (k : Φ (.bool false) w) : Does P (.binOp .eql t x y t') ty E w Φ :=
  does_eql hx hy (by rw [bF hc]; exact k)
theorem does_neqT {j : IntKind} {m n : Int} (hx : ev E x = some (.int j m)) (hy : ev E y = some (.int j n)) (hc : (m ≠ n)) (k : Φ (.bool true) w) : Does P (.binOp .neq t x y t') ty E w Φ :=
  does_neq hx hy (by rw [bT hc]; exact k)
theorem does_neqF {j : IntKind} {m n : Int} (hx : ev E x = some (.int j m)) (hy : ev E y = some (.int j n)) (hc : ¬ (m ≠ n)) (k : Φ (.bool false) w) : Does P (.binOp .neq t x y t') ty E w Φ :=
  does_neq hx hy (by rw [bF hc]; exact k)

/-! ### Lengths -/
theorem does_builtin {b : Builtin} {args : List Operand} {ats : Array TypeId} {vs : List Value} {r : Value} {w' : World} [NMOp P (.call { callee := .builtin b, args := args.toArray, argTypes := ats })] (hx : evs E args = some vs)
    (hr : ∀ consts, (builtin b ats ty consts vs.toArray).run P w = .ok (.value r) w') (k : Φ r w') :
    Does P (.call { callee := .builtin b, args := args.toArray, argTypes := ats }) ty E w Φ := by
  refine does_of (fun ρ hρ => ?_)
  have hm : ∀ (l : List Operand) (us : List Value), evs E l = some us → l.map ρ = us := by
    intro l
    induction l with
    | nil => intro us h; simp [evs] at h; simp [h]
    | cons z l ih =>
      intro us h
      simp only [evs] at h
      split at h
      · cases h
      · rename_i v hv
        split at h
        · cases h
        · rename_i vs' hvs
          simp only [Option.some.injEq] at h
          subst h
          simp [ih _ hvs, hρ _ _ hv]
  have : (execOp ρ (mk (.call { callee := .builtin b, args := args.toArray, argTypes := ats }) ty)).run P w = .ok (.value r) w' := by
    simp only [execOp, mk, resolve, List.map_toArray, hm _ _ hx]
    simp only [Sem.run_bind, Sem.run_pure, Result.andThen_ok, invoke]
    exact hr _
  rw [this]; exact k

theorem evs_map {ρ : Operand → Value} (hρ : Sat E ρ) : ∀ (l : List Operand) (us : List Value), evs E l = some us → l.map ρ = us := by
  intro l
  induction l with
  | nil => intro us h; simp [evs] at h; simp [h]
  | cons z l ih =>
    intro us h
    simp only [evs] at h
    split at h
    · cases h
    · rename_i v hv
      split at h
      · cases h
      · rename_i vs' hvs
        simp only [Option.some.injEq] at h
        subst h
        simp [ih _ hvs, hρ _ _ hv]

theorem does_lenS {e : TypeId} {a : Option Addr} {n c : Nat} (hu : P.underlying t = some (.slice e)) (hx : ev E x = some (.slice a n c)) (k : Φ (.int .i64 n) w) :
    Does P (.call { callee := .builtin .len, args := [x].toArray, argTypes := [t].toArray }) ty E w Φ :=
  does_builtin (vs := [.slice a n c]) (by simp [evs, hx]) (by intro _; simp [builtin, Builtin.len_, underlying, hu, goInt]) k
theorem does_lenStr {s : ByteArray} (hu : P.underlying t = some .string) (hx : ev E x = some (.string s)) (k : Φ (.int .i64 s.size) w) :
    Does P (.call { callee := .builtin .len, args := [x].toArray, argTypes := [t].toArray }) ty E w Φ :=
  does_builtin (vs := [.string s]) (by simp [evs, hx]) (by intro _; simp [builtin, Builtin.len_, underlying, hu, goInt]) k
theorem does_lenArr {e n : Nat} {v : Value} (hu : P.underlying t = some (.array n e)) (hx : ev E x = some v) (k : Φ (.int .i64 n) w) :
    Does P (.call { callee := .builtin .len, args := [x].toArray, argTypes := [t].toArray }) ty E w Φ :=
  does_builtin (vs := [v]) (by simp [evs, hx]) (by intro _; simp [builtin, Builtin.len_, underlying, hu, goInt]) k
/-! ### Calls -/
/-- a call of function f enters it -/
structure Enters (P : Program) (f : FuncId) : Prop where
  out : ∀ args w, (callFunc f args).run P w = .ok (.enter f args) w
  nm : ∀ args, NM P (callFunc f args)

theorem enters_of {f : FuncId} {fn : Func} {b : Code} (hf : P.funcs[f]? = some fn) (hname : (fn.name == "runtime.NumGoroutine") = false) (hb : fn.body = some b) : Enters P f := by
  have h1 : fn.name ≠ "runtime.NumGoroutine" := by simpa using hname
  refine ⟨fun args w => by simp [callFunc, hf, h1, hb], fun args => ?_⟩
  unfold callFunc
  show NM P (match P.funcs[f]? with
    | none => _
    | some fn => _)
  rw [hf]
  simp only [h1, hb, hname, Option.isNone_some, Bool.false_eq_true, if_false]
  exact trivial

/-- whatever the world: it returns v, and what was there stays -/
structure Fun (P : Program) (f : FuncId) (vs : List Value) (v : Value) : Prop where
  out : ∀ w, Calls P f vs.toArray w fun e w' => e = .returned v ∧ Ext w w'

theorem does_callV {f : FuncId} {args : List Operand} {ats : Array TypeId} {vs first cap : List Value} (hen : Enters P f) (hf : ev E c = some (.func (.func f) first.toArray cap.toArray)) (hx : evs E args = some vs)
    (k : Calls P f (first ++ vs ++ cap).toArray w fun e w' => ∃ v, e = .returned v ∧ Φ v w') :
    Does P (.call { callee := .value c, args := args.toArray, argTypes := ats }) ty E w Φ := by
  refine ⟨fun ρ hρ => ?_, fun ρ hρ => ?_⟩
  · have : (execOp ρ (mk (.call { callee := .value c, args := args.toArray, argTypes := ats }) ty)).run P w = .ok (.enter f (first ++ vs ++ cap).toArray) w := by
      simp only [execOp, mk, resolve, List.map_toArray, evs_map hρ _ _ hx, hρ _ _ hf, Deferred.ofValue]
      simp only [Sem.run_bind, Sem.run_pure, Result.andThen_ok, invoke]
      rw [hen.out]
      simp
    rw [this]; exact k
  · refine nm_events ?_ w
    simp only [execOp, mk, resolve, List.map_toArray, evs_map hρ _ _ hx, hρ _ _ hf, Deferred.ofValue]
    exact hen.nm _

theorem does_call {f : FuncId} {args : List Operand} {ats : Array TypeId} {vs : List Value} (hen : Enters P f) (hx : evs E args = some vs)
    (k : Calls P f vs.toArray w fun e w' => ∃ v, e = .returned v ∧ Φ v w') :
    Does P (.call { callee := .value (.func f), args := args.toArray, argTypes := ats }) ty E w Φ :=
  does_callV (first := []) (cap := []) hen rfl hx (by simpa using k)

theorem does_fun {f : FuncId} {args : List Operand} {ats : Array TypeId} {vs : List Value} {v : Value} (hen : Enters P f) (hx : evs E args = some vs) (hc : Fun P f vs v)
    (k : ∀ w', Ext w w' → Φ v w') : Does P (.call { callee := .value (.func f), args := args.toArray, argTypes := ats }) ty E w Φ :=
  does_call hen hx ((hc.out w).mono fun _ w' ⟨he, hw⟩ => ⟨v, he, k w' hw⟩)

theorem does_funM {W0 : World} {X : List Nat} {B : Heap} {L : List Own} {f : FuncId} {args : List Operand} {ats : Array TypeId} {vs : List Value} {v : Value} (hm : Mem W0 X B L w) (hen : Enters P f) (hx : evs E args = some vs) (hc : Fun P f vs v)
    (k : ∀ w', Mem W0 X B L w' → Φ v w') : Does P (.call { callee := .value (.func f), args := args.toArray, argTypes := ats }) ty E w Φ :=
  does_fun hen hx hc fun w' hw => k w' (hm.ext hw)
end

/-! ### A guard that is not decided -/
section
variable {P : Program} {Q : Exit → Act → World → Prop} {a : Act} {w : World} {l rest : List Oper} {E : Env} {n : Nat} {d : Option Tmp} {op : Op} {ty : TypeId} {pos : String} {af : Array Edge} {j t : Nat} {want : Bool}
theorem Holds.set {v : Value} (h : Holds E n a) (hv : Env.get E t = some v) {u : Value} (hu : v = u) : Holds ((t, u) :: E) n a := by
  subst hu
  refine ⟨h.size, h.defers, fun s x hx => ?_⟩
  simp only [Env.get] at hx
  by_cases hts : t = s
  · subst hts
    simp at hx
    subst hx
    exact h.get t v hv
  · rw [beqF hts] at hx
    exact h.get s x (by simpa using hx)
theorem st_guardD {p : Prop} (ht : (l[j]?).bind (·.dst) = some t) (hE : Env.get E t = some (.bool (dB p))) (h : Holds E n a)
    (kT : p → Holds ((t, .bool true) :: E) n a → LW P l Q (⟨d, op, ty, pos, af, some (j, want)⟩ :: rest) a w)
    (kF : ¬ p → Holds ((t, .bool false) :: E) n a → LW P l Q (⟨d, op, ty, pos, af, some (j, want)⟩ :: rest) a w) :
    LW P l Q (⟨d, op, ty, pos, af, some (j, want)⟩ :: rest) a w := by
  by_cases hp : p
  · exact kT hp (h.set hE (by rw [bT hp]))
  · exact kF hp (h.set hE (by rw [bF hp]))
theorem st_guardB {b : Bool} (ht : (l[j]?).bind (·.dst) = some t) (hE : Env.get E t = some (.bool b)) (h : Holds E n a)
    (kT : b = true → Holds ((t, .bool true) :: E) n a → LW P l Q (⟨d, op, ty, pos, af, some (j, want)⟩ :: rest) a w)
    (kF : b = false → Holds ((t, .bool false) :: E) n a → LW P l Q (⟨d, op, ty, pos, af, some (j, want)⟩ :: rest) a w) :
    LW P l Q (⟨d, op, ty, pos, af, some (j, want)⟩ :: rest) a w := by
  by_cases hp : b = true
  · exact kT hp (h.set hE (by rw [hp]))
  · exact kF (by simpa using hp) (h.set hE (by rw [show b = false by simpa using hp]))
end
theorem dB_not (p : Prop) : (!dB p) = dB (¬ p) := by
  by_cases hp : p
  · rw [bT hp, bF (fun h => h hp)]; rfl
  · rw [bF hp, bT hp]; rfl
theorem dB_beq (p q : Prop) : (dB p == dB q) = dB (p ↔ q) := by
  by_cases hp : p <;> by_cases hq : q
  · rw [bT hp, bT hq, bT ⟨fun _ => hq, fun _ => hp⟩]; rfl
  · rw [bT hp, bF hq, bF (fun h => hq (h.1 hp))]; rfl
  · rw [bF hp, bT hq, bF (fun h => hp (h.2 hq))]; rfl
  · rw [bF hp, bF hq, bT ⟨fun h => (hp h).elim, fun h => (hq h).elim⟩]; rfl
theorem does_notD {P : Program} {E : Env} {w : World} {Φ : Value → World → Prop} {ty t : TypeId} {x : Operand} {p : Prop} (hx : ev E x = some (.bool (dB p))) (k : Φ (.bool (dB (¬ p))) w) : Does P (.unOp .not t x) ty E w Φ :=
  does_not hx (by rw [dB_not]; exact k)
theorem CW.mono {P : Program} {Q Q' : Exit → Act → World → Prop} {a : Act} {w : World} {c : Code} (h : CW P c Q a w) (hq : ∀ e a w, Q e a w → Q' e a w) : CW P c Q' a w :=
  ⟨fun Stop b k cs hk hc => h.out Stop b k cs hk fun e a w q => hc e a w (hq e a w q)⟩
def rounds (P : Program) (c : Code) (Q : Exit → Act → World → Prop) : Nat → Act → World → Prop
  | 0, _, _ => False
  | n + 1, a, w => CW P c (Exit.then (rounds P c Q n) Q) a w
/-- at most so many rounds -/
structure RW (P : Program) (c : Code) (Q : Exit → Act → World → Prop) (n : Nat) (a : Act) (w : World) : Prop where
  out : rounds P c Q n a w
theorem c_rounds {P : Program} {Q : Exit → Act → World → Prop} {a : Act} {w : World} {c : Code} (n : Nat) (h : RW P c Q n a w) : CW P (Code.loop c) Q a w := by
  refine ⟨fun Stop b k cs hk hc => ?_⟩
  have key : ∀ n a w, rounds P c Q n a w → Walk P Stop (Conc.G (b.at a (.code c :: .inLoop c :: k)) cs) w := by
    intro n
    induction n with
    | zero => intro a w h; exact h.elim
    | succ n ih =>
      intro a w h
      refine (show CW P c (Exit.then (rounds P c Q n) Q) a w from h).out Stop b (.inLoop c :: k) cs hk fun e a' w' q => ?_
      cases e with
      | normal => exact Walk.of rfl fun d => ⟨_, _, _, Conc.stepG_inLoop, mild_nil, (ih a' w' q).at d⟩
      | exit id => exact Aft.push (x := .inLoop c) rfl (by simp) (hc _ _ _ q)
      | ret => exact Aft.push (x := .inLoop c) rfl (by simp) (hc _ _ _ q)
      | goto l => exact hc _ _ _ q
      | panic ch => exact hc _ _ _ q
      | outgrown => exact hc _ _ _ q
  exact Walk.of rfl fun d => ⟨_, _, _, Conc.stepG_loop, mild_nil, (key n a w h.out).at d⟩
theorem r_succ {P : Program} {Q : Exit → Act → World → Prop} {a : Act} {w : World} {c : Code} {n : Nat} (h : CW P c (Exit.then (RW P c Q n) Q) a w) : RW P c Q (n + 1) a w :=
  ⟨h.mono fun e a w q => by cases e <;> first | exact q | exact q.out⟩
theorem k_thenL {P : Program} {Q Q' : Exit → Act → World → Prop} {a : Act} {w : World} {c : Code} {n : Nat} (h : CW P c (Exit.then (RW P c Q n) Q) a w) : Cont (Exit.then (RW P c Q (n + 1)) Q') .normal a w := ⟨r_succ h⟩
theorem boolT {p : Prop} (h : p) : Value.bool true = .bool (dB p) := by rw [bT h]
theorem boolF {p : Prop} (h : ¬ p) : Value.bool false = .bool (dB p) := by rw [bF h]
theorem boolI {p q : Prop} (h : p ↔ q) : Value.bool (dB p) = .bool (dB q) := by
  by_cases hp : p
  · rw [bT hp, bT (h.1 hp)]
  · rw [bF hp, bF (fun hq => hp (h.2 hq))]
theorem mul_in {m n : Int} (hm : -3037000499 ≤ m ∧ m ≤ 3037000499) (hn : -3037000499 ≤ n ∧ n ≤ 3037000499) : -9223372036854775808 ≤ m * n ∧ m * n ≤ 9223372036854775807 := by
  have h1 : m.natAbs ≤ 3037000499 := by omega
  have h2 : n.natAbs ≤ 3037000499 := by omega
  have h3 : m.natAbs * n.natAbs ≤ 3037000499 * 3037000499 := Nat.mul_le_mul h1 h2
  have h4 : (m * n).natAbs = m.natAbs * n.natAbs := Int.natAbs_mul m n
  omega
theorem mul_bd {m n : Int} {a b : Nat} (hm : -(a : Int) ≤ m ∧ m ≤ a) (hn : -(b : Int) ≤ n ∧ n ≤ b) : -((a * b : Nat) : Int) ≤ m * n ∧ m * n ≤ ((a * b : Nat) : Int) := by
  have h1 : m.natAbs ≤ a := by omega
  have h2 : n.natAbs ≤ b := by omega
  have h3 : m.natAbs * n.natAbs ≤ a * b := Nat.mul_le_mul h1 h2
  have h4 : (m * n).natAbs = m.natAbs * n.natAbs := Int.natAbs_mul m n
  omega
theorem intE {k : IntKind} {m n : Int} (h : m = n) : Value.int k m = .int k n := by rw [h]
theorem aggE {xs ys : List Value} (h : xs = ys) : Value.agg xs.toArray = .agg ys.toArray := by rw [h]
theorem tupE {xs ys : List Value} (h : xs = ys) : Value.tuple xs.toArray = .tuple ys.toArray := by rw [h]
theorem does_funX {P : Program} {E : Env} {w : World} {Φ : Value → World → Prop} {ty : TypeId} {f : FuncId} {args : List Operand} {ats : Array TypeId} {vs : List Value} {v : Value} (hen : Enters P f) (hx : evs E args = some vs) (hc : Fun P f vs v)
    (k : ∀ w', Ext w w' → Φ v w') : Does P (.call { callee := .value (.func f), args := args.toArray, argTypes := ats }) ty E w Φ := does_fun hen hx hc k

/-! ### Entering a function, and leaving it -/
def enumE : Nat → List Value → Env
  | _, [] => []
  | i, v :: r => (i, v) :: enumE (i + 1) r

theorem enumE_get : ∀ (vs : List Value) (i t : Nat) (v : Value), Env.get (enumE i vs) t = some v → ∃ j, t = i + j ∧ vs[j]? = some v
  | [], i, t, v, h => by simp [enumE, Env.get] at h
  | u :: r, i, t, v, h => by
    simp only [enumE, Env.get] at h
    by_cases hit : i = t
    · subst hit
      simp at h
      exact ⟨0, by simp, by simp [h]⟩
    · rw [beqF hit] at h
      obtain ⟨j, hj, hv⟩ := enumE_get r (i + 1) t v (by simpa using h)
      exact ⟨j + 1, by omega, by simpa using hv⟩

theorem Holds.enter (vs : List Value) (n : Nat) (hn : Nat.ble vs.length n = true) : Holds (enumE 0 vs) n { tmps := vs.toArray ++ Array.replicate (n - vs.toArray.size) undef, defers := [] } := by
  have hn' : vs.length ≤ n := Nat.le_of_ble_eq_true hn
  refine ⟨by simp; omega, rfl, fun t v h => ?_⟩
  obtain ⟨j, hj, hv⟩ := enumE_get vs 0 t v h
  have : t = j := by omega
  subst this
  have hlt : t < vs.length := (List.getElem?_eq_some_iff.1 hv).1
  simp only [List.size_toArray]
  rw [Array.getElem?_append_left (by simpa using hlt)]
  simpa using hv

/-- the end of a function's body -/
def Post (P : Program) (fn : Func) (R : Value → World → Prop) : Exit → Act → World → Prop
  | .normal, a, w | .ret, a, w => a.defers = [] ∧ ∃ v, (∀ d, (results fn a.tmps).run P (w.at d) = .ok v (w.at d)) ∧ R v w
  | _, _, _ => False

theorem stepG_leave' {P : Program} {main : Bool} {b : Frame} {a : Act} {w : World} {fn : Func} {todo : List Item} {cf : Frame} {cs : List Frame} {v : Value} (hn : b.kind = .normal) (hd : a.defers = []) (hf : P.funcs[b.fn]? = some fn) (hr : (results fn a.tmps).run P w = .ok v w) :
    stepG P main (Conc.G { b.at a todo with mode := .returning } (cf :: cs)) w = .go (Conc.G (cf.finish v) cs) w (seen P b.fn ((results fn a.tmps).events P w #[])) := by
  simp [Conc.G, stepG, unwind, doReturn, Frame.at, hn, hd, hf, hr, GStep.after]

theorem enter {P : Program} {f : FuncId} {fn : Func} {c : Code} {vs : List Value} {w : World} {n : Nat} {R : Value → World → Prop} (hf : P.funcs[f]? = some fn) (hb : fn.body = some c) (hn : fn.ntmps = n) (hl : Nat.ble vs.length n = true)
    (h : ∀ a, Holds (enumE 0 vs) n a → CW P c (Post P fn R) a w) : Calls P f vs.toArray w fun e w' => ∃ v, e = .returned v ∧ R v w' := by
  intro Stop cf cs hk
  have hleave : ∀ (a' : Act) (w' : World) (todo : List Item), (a'.defers = [] ∧ ∃ v, (∀ d, (results fn a'.tmps).run P (w'.at d) = .ok v (w'.at d)) ∧ R v w') → Walk P Stop (Conc.G { (Conc.base f).at a' todo with mode := .returning } (cf :: cs)) w' := by
    rintro a' w' todo ⟨hd, v, hr, hp⟩
    exact Walk.of rfl fun d => ⟨_, _, _, stepG_leave' (b := Conc.base f) rfl hd hf (hr d), fun e hx m hm => nm_events (nm_results fn a'.tmps) _ e (Conc.mem_seen hx) m hm, (hk v w' ⟨v, rfl, hp⟩).at d⟩
  rw [Conc.enter_at _ hf hb, hn]
  refine (h _ (Holds.enter vs n hl)).out Stop (Conc.base f) [] (cf :: cs) (by simp [Conc.base]) fun e a' w' q => ?_
  cases e with
  | normal => exact Walk.of rfl fun d => ⟨_, _, _, Conc.stepG_end, mild_nil, (hleave a' w' [] q).at d⟩
  | ret => exact fun todo => hleave a' w' todo q
  | exit id => exact q.elim
  | goto l => exact q.elim
  | panic ch => exact q.elim
  | outgrown => exact q.elim

theorem enterFun {P : Program} {f : FuncId} {fn : Func} {c : Code} {vs : List Value} {n : Nat} {v : Value} (hf : P.funcs[f]? = some fn) (hb : fn.body = some c) (hn : fn.ntmps = n) (hl : Nat.ble vs.length n = true)
    (h : ∀ W0 w a, Mem W0 [] (fun b => W0.heap[b]?) [] w → Holds (enumE 0 vs) n a → CW P c (Post P fn fun u w' => u = v ∧ Ext W0 w') a w)   : Fun P f vs v := by
  refine ⟨fun w => ?_⟩
  refine (enter (R := fun u w' => u = v ∧ Ext w w') hf hb hn hl (fun a ha => h w w a (Mem.start w) ha)).mono ?_
  rintro e w' ⟨u, rfl, rfl, hx⟩
  exact ⟨rfl, hx⟩

section
variable {P : Program} {fn : Func} {R : Value → World → Prop} {a : Act} {w : World} {E : Env} {n : Nat}
theorem k_ret1 {t : Nat} {v : Value} (hr : fn.results = [ResultVar.tmp t].toArray) (h : Holds E n a) (hv : Env.get E t = some v) (k : R v w) : Cont (Post P fn R) .ret a w := by
  refine ⟨show a.defers = [] ∧ ∃ u, (∀ d, (results fn a.tmps).run P (w.at d) = .ok u (w.at d)) ∧ R u w from ⟨h.defers, _, fun d => results_tmp hr a.tmps P _, ?_⟩⟩
  have := h.get t v hv
  simpa [this] using k
theorem k_normal {t : Nat} {v : Value} (hr : fn.results = [ResultVar.tmp t].toArray) (h : Holds E n a) (hv : Env.get E t = some v) (k : R v w) : Cont (Post P fn R) .normal a w := by
  refine ⟨show a.defers = [] ∧ ∃ u, (∀ d, (results fn a.tmps).run P (w.at d) = .ok u (w.at d)) ∧ R u w from ⟨h.defers, _, fun d => results_tmp hr a.tmps P _, ?_⟩⟩
  have := h.get t v hv
  simpa [this] using k
end

end Go.Proofs.Ytedgbmefajnjeaa.St
