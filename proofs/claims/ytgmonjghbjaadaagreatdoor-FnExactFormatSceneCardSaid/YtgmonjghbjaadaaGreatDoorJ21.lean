/-
  A scene as text: its lines, plain.
-/
import Derived.Test.YtgmonjghbjaadaaGreatDoorLFpr
import Derived.Test.YtgmonjghbjaadaaGreatDoorLFvp
import Derived.Test.YtgmonjghbjaadaaGreatDoorLTxf
import Derived.Test.YtgmonjghbjaadaaGreatDoorJ5
import Derived.Test.YtgmonjghbjaadaaGreatDoorLVsc
import Derived.Test.YtgmonjghbjaadaaGreatDoorJ6
import Derived.Shelf.Lays
import Derived.Shelf.Vars
import Derived.Shelf.Strings.Replace

section
set_option linter.unusedSimpArgs false
set_option linter.unusedVariables false
namespace Go.Proofs.YtgmonjghbjaadaaGreatDoor.St
open Go.RowKit
noncomputable def headB (s : PScene) : List ByteArray := [⟨#[99, 97, 109, 101, 114, 97, 32]⟩ ++ bs (camT s.cw s.ch s.cz s.cn s.cd s.cl s.cf), ⟨#[116, 101, 120, 116, 117, 114, 101, 32]⟩ ++ fTx s.lg s.tx, ⟨#[115, 105, 100, 101, 32]⟩ ++ iTx s.sd]
noncomputable def shB (y : List PNode × List TAssignment) : ByteArray := ⟨#[115, 104, 97, 100, 101, 114, 32]⟩ ++ bs ((progT y.1 y.2 y.2.length).map flB)
abbrev patX (z : TSurface) : List UInt8 := patT z.x0 z.y0 z.z0 z.x1 z.y1 z.z1 z.x2 z.y2 z.z2 z.x3 z.y3 z.z3
abbrev patY (z : TSurface) : List UInt8 := patT z.u0 z.v0 z.w0 z.u1 z.v1 z.w1 z.u2 z.v2 z.w2 z.u3 z.v3 z.w3
def suL (z : TSurface) : List ByteArray := [⟨#[115, 117, 114, 102, 97, 99, 101]⟩, iTx z.sh, iTx z.ra, bs (patX z), bs (patY z)]
def suB (z : TSurface) : ByteArray := bs (Lib.join ((suL z).map tB) [32])
theorem suB_eq (z : TSurface) : ⟨#[115, 117, 114, 102, 97, 99, 101, 32]⟩ ++ iTx z.sh ++ ⟨#[32]⟩ ++ iTx z.ra ++ ⟨#[32]⟩ ++ bs (patX z) ++ ⟨#[32]⟩ ++ bs (patY z) = suB z := by
  rw [suB, suL]
  rw [show (⟨#[115, 117, 114, 102, 97, 99, 101, 32]⟩ : ByteArray) = bs [115, 117, 114, 102, 97, 99, 101, 32] from rfl, show (⟨#[32]⟩ : ByteArray) = bs [32] from rfl, bs_append, bs_append, bs_append, bs_append, bs_append, bs_append, bs_append]
  congr 1
  simp only [Lib.join, List.map_cons, List.map_nil, tB, List.intercalate, List.intersperse]
  simp
noncomputable def linesK (s : PScene) (i j : Nat) : List ByteArray := headB s ++ (s.sh.take i).map shB ++ (s.su.take j).map suB
theorem linesK_len {s : PScene} {i j : Nat} (hi : i ≤ s.sh.length) (hj : j ≤ s.su.length) : (linesK s i j).length = 3 + i + j := by
  simp only [linesK, headB, List.length_append, List.length_cons, List.length_nil, List.length_map, List.length_take]
  omega
theorem linesK_zero (s : PScene) : linesK s 0 0 = headB s := by simp [linesK]
theorem linesK_sh {x : TScene} {k : Nat} (h : k < x.sh.length) : linesK (aSc x) (k + 1) 0 = linesK (aSc x) k 0 ++ [shB (aP x.sh[k])] := by
  simp only [linesK, List.take_zero, List.map_nil, List.append_nil, List.append_assoc]
  rw [List.take_add_one, List.getElem?_map, List.getElem?_eq_getElem h]
  simp
theorem linesK_su {x : TScene} {i k : Nat} (h : k < x.su.length) : linesK (aSc x) i (k + 1) = linesK (aSc x) i k ++ [suB x.su[k]] := by
  simp only [linesK, List.append_assoc]
  have e : x.su.take (k + 1) = x.su.take k ++ [x.su[k]] := by rw [List.take_add_one, List.getElem?_eq_getElem h]; rfl
  rw [e, List.map_append]
  rfl
theorem eT_flat : ∀ l : List ByteArray, (l.map eT).flatten = l.map Value.string
  | [] => rfl
  | y :: l => by rw [List.map_cons, List.flatten_cons, eT_flat l]; rfl
theorem eT_len (l : List ByteArray) : (l.map eT).flatten.length = l.length := by rw [eT_flat, List.length_map]
theorem flat_snoc (l : List ByteArray) (y : ByteArray) : (l.map eT).flatten ++ eT y = ((l ++ [y]).map eT).flatten := by simp
noncomputable def linesB (s : PScene) : List ByteArray := linesK s s.sh.length s.su.length
open Classical in
noncomputable def scT (s : PScene) : ByteArray := if vScene s then bs (Lib.join ((linesB s).map tB) (tB ⟨#[10]⟩)) ++ ⟨#[10]⟩ else ⟨#[]⟩
theorem cam_size {cw ch cz cn : Int} {d : Bool} {cl cf : Int} (hv : vCam cw ch cz cn cl cf) : (bs (camT cw ch cz cn d cl cf)).size ≤ 85 := by
  have hok : okTx [cw, ch, cz, cn, if d then 1 else 0, cl, cf] := fun m hm => by
    unfold vCam at hv
    simp only [List.mem_cons, List.not_mem_nil, or_false] at hm
    cases d
    · simp only [Bool.false_eq_true, if_false] at hm
      omega
    · simp only [if_true] at hm
      omega
  have h1 : (bs (camT cw ch cz cn d cl cf)).size = _ := bs_size (camT cw ch cz cn d cl cf)
  have h2 := lTx_long hok
  simp only [List.length_cons, List.length_nil] at h2
  unfold camT at h1 ⊢
  omega
theorem fTx_size {g : Int} {xs : List Int} (h : vTex g xs) (hl : xs.length ≤ 1048576) : (fTx g xs).size ≤ 13000000 := by
  have hg := vTex_g h
  rw [fTx, if_pos h]
  have h1 := ByteArray.size_append (a := iTx g ++ ⟨#[58]⟩) (b := bs (lTx xs))
  have h2 := ByteArray.size_append (a := iTx g) (b := ⟨#[58]⟩)
  have h3 : (iTx g).size = _ := bs_size (Lib.itoa g)
  have h4 : (bs (lTx xs)).size = _ := bs_size (lTx xs)
  have h5 : (⟨#[58]⟩ : ByteArray).size = 1 := rfl
  have h6 := lTx_bd (okTx_of h)
  have h7 := iTx_size (n := g) (by omega)
  omega
theorem int_size {n : Int} (h : -1000000000 ≤ n ∧ n ≤ 1000000000) : (iTx n).size ≤ 11 := by
  have h3 : (iTx n).size = _ := bs_size (Lib.itoa n)
  have h7 := iTx_size h
  omega
theorem shB_size {y : List PNode × List TAssignment} (h : vProg y.1 y.2) (hl : y.2.length ≤ 1048576) : (shB y).size ≤ 2600000000 := by
  have h1 := ByteArray.size_append (a := ⟨#[115, 104, 97, 100, 101, 114, 32]⟩) (b := bs ((progT y.1 y.2 y.2.length).map flB))
  have h2 : (bs ((progT y.1 y.2 y.2.length).map flB)).size = _ := bs_size ((progT y.1 y.2 y.2.length).map flB)
  have h3 := progT_len h y.2.length (Nat.le_refl _)
  have h4 : (⟨#[115, 104, 97, 100, 101, 114, 32]⟩ : ByteArray).size = 7 := rfl
  rw [List.length_map] at h2
  rw [shB]
  omega
theorem suL_size {z : TSurface} {n : Nat} (h : vS z n) (hn : n ≤ 3) : ∀ u ∈ suL z, u.size ≤ 152 := fun u hu => by
  obtain ⟨h1, h2, h3, h4, h5⟩ := h
  simp only [suL, List.mem_cons, List.not_mem_nil, or_false] at hu
  have i1 := int_size (n := z.sh) (by omega)
  have i2 := int_size (n := z.ra) (by omega)
  rcases hu with rfl | rfl | rfl | rfl | rfl
  · exact Nat.le_trans (Nat.le_of_eq rfl) (show 7 ≤ 152 by decide)
  · omega
  · omega
  · exact pat_size h1
  · exact pat_size h2
theorem suB_size {z : TSurface} {n : Nat} (h : vS z n) (hn : n ≤ 3) : (suB z).size ≤ 765 := by
  have h1 : (suB z).size = _ := bs_size (Lib.join ((suL z).map tB) [32])
  have h2 := jU_bd (xs := suL z) (sep := ⟨#[32]⟩) (suL_size h hn) 5 (Nat.le_refl _)
  rw [h1]
  exact Nat.le_trans h2 (by decide)
theorem lines_size {x : TScene} (hv : vScene (aSc x)) (hs : smSc x) : ∀ u ∈ linesB (aSc x), u.size ≤ 2600000000 := fun u hu => by
  have hn : x.sh.length ≤ 3 := by have := hv.nsh; simp only [aSc, List.length_map] at this; omega
  simp only [linesB, linesK, headB, List.mem_append, List.mem_cons, List.not_mem_nil, or_false, List.take_length, List.mem_map] at hu
  rcases hu with ((rfl | rfl | rfl) | ⟨y, hy, rfl⟩) | ⟨z, hz, rfl⟩
  · have h1 := cam_size (d := x.cd) hv.cam
    rw [ByteArray.size_append]
    have h4 : (⟨#[99, 97, 109, 101, 114, 97, 32]⟩ : ByteArray).size = 7 := rfl
    simp only [aSc] at h1 ⊢
    omega
  · have h1 := fTx_size hv.tex hs.tex
    rw [ByteArray.size_append]
    have h4 : (⟨#[116, 101, 120, 116, 117, 114, 101, 32]⟩ : ByteArray).size = 8 := rfl
    simp only [aSc] at h1 ⊢
    omega
  · have hsd := hv.side
    have h1 := int_size (n := x.sd) (by simp only [aSc] at hsd; omega)
    rw [ByteArray.size_append]
    have h4 : (⟨#[115, 105, 100, 101, 32]⟩ : ByteArray).size = 5 := rfl
    omega
  · obtain ⟨z, hz, rfl⟩ := hy
    obtain ⟨i, hi, rfl⟩ := List.mem_iff_getElem.1 hz
    have hok := hv.progs i (aP x.sh[i]) (by simp only [aSc, List.getElem?_map, List.getElem?_eq_getElem hi, Option.map_some])
    exact shB_size hok.val (hs.each x.sh[i] (List.getElem_mem hi)).2
  · obtain ⟨i, hi, rfl⟩ := List.mem_iff_getElem.1 hz
    have hvs := hv.surfs i _ (List.getElem?_eq_getElem hi)
    have : (aSc x).sh.length = x.sh.length := by simp only [aSc, List.length_map]
    exact Nat.le_trans (suB_size hvs (by omega)) (by decide)
theorem linesB_len {x : TScene} (hv : vScene (aSc x)) : (linesB (aSc x)).length = 3 + x.sh.length + x.su.length ∧ 3 + x.sh.length + x.su.length ≤ 11 := by
  have h1 := hv.nsh
  have h2 := hv.nsu
  simp only [aSc, List.length_map] at h1 h2
  rw [linesB, linesK_len (Nat.le_refl _) (Nat.le_refl _)]
  simp only [aSc, List.length_map, true_and]
  omega
theorem text_size {x : TScene} (hv : vScene (aSc x)) (hs : smSc x) : (Lib.join ((linesB (aSc x)).map tB) (tB ⟨#[10]⟩)).length ≤ 30000000000 := by
  have h1 := jU_bd (xs := linesB (aSc x)) (sep := ⟨#[10]⟩) (lines_size hv hs) _ (Nat.le_refl _)
  have h2 := linesB_len hv
  have h3 : (linesB (aSc x)).length * (2600000000 + (⟨#[10]⟩ : ByteArray).size) ≤ 11 * 2600000001 := Nat.mul_le_mul (by omega) (Nat.le_refl _)
  rw [jU, List.take_length] at h1
  omega
end Go.Proofs.YtgmonjghbjaadaaGreatDoor.St
end

section
/-
  strings.ReplaceAll, laid here: newlines as spaces.
-/
set_option linter.unusedSimpArgs false
set_option linter.unusedVariables false
namespace Go.Proofs.YtgmonjghbjaadaaGreatDoor.St
open Go.RowKit
def layR_ren : Go.Shelf.Ren := ⟨fun | 155 => 28 | 154 => 59 | 138 => 90 | 165 => 91 | 143 => 92 | 166 => 61 | 197 => 93 | 169 => 63 | 195 => 121 | 218 => 122 | 240 => 98 | 241 => 123 | 219 => 124 | 260 => 125 | 276 => 127 | 277 => 142 | 217 => 143 | 225 => 144 | 224 => 145 | 267 => 146 | 266 => 160 | 314 => 161 | n => n, fun | 9 => 9 | 3 => 3 | 4 => 4 | 72 => 107 | 0 => 0 | 76 => 110 | 105 => 135 | 21 => 21 | 5 => 5 | 70 => 105 | 20 => 20 | 37 => 87 | 75 => 109 | 127 => 139 | 164 => 163 | 46 => 184 | 119 => 185 | 139 => 188 | 138 => 187 | 146 => 201 | 51 => 198 | 80 => 112 | n => n, fun | 1 => 0 | 3 => 1 | 4 => 2 | n => n⟩
theorem layR : Lays.n155 Tryz.prog layR_ren := {
  mixed := by kernel_rfl,
  f138 := Tryz.func90.trans (congrArg some (by kernel_rfl)),
  f143 := Tryz.func92.trans (congrArg some (by kernel_rfl)),
  f154 := Tryz.func59.trans (congrArg some (by kernel_rfl)),
  f155 := Tryz.func28.trans (congrArg some (by kernel_rfl)),
  f165 := Tryz.func91.trans (congrArg some (by kernel_rfl)),
  f166 := Tryz.func61.trans (congrArg some (by kernel_rfl)),
  f169 := Tryz.func63.trans (congrArg some (by kernel_rfl)),
  f195 := Tryz.func121.trans (congrArg some (by kernel_rfl)),
  f197 := Tryz.func93.trans (congrArg some (by kernel_rfl)),
  f217 := Tryz.func143.trans (congrArg some (by kernel_rfl)),
  f218 := Tryz.func122.trans (congrArg some (by kernel_rfl)),
  f219 := Tryz.func124.trans (congrArg some (by kernel_rfl)),
  f224 := Tryz.func145.trans (congrArg some (by kernel_rfl)),
  f225 := Tryz.func144.trans (congrArg some (by kernel_rfl)),
  f240 := Tryz.func98.trans (congrArg some (by kernel_rfl)),
  f241 := Tryz.func123.trans (congrArg some (by kernel_rfl)),
  f260 := Tryz.func125.trans (congrArg some (by kernel_rfl)),
  f266 := Tryz.func160.trans (congrArg some (by kernel_rfl)),
  f267 := Tryz.func146.trans (congrArg some (by kernel_rfl)),
  f276 := Tryz.func127.trans (congrArg some (by kernel_rfl)),
  f277 := Tryz.func142.trans (congrArg some (by kernel_rfl)),
  f314 := Tryz.func161.trans (congrArg some (by kernel_rfl)),
  t0 := Tryz.underlying0,
  a0 := Tryz.isAgg0,
  z0 := Tryz.sizeOf0,
  v0 := Tryz.zeroValue0,
  t3 := Tryz.underlying3,
  a3 := Tryz.isAgg3,
  z3 := Tryz.sizeOf3,
  v3 := Tryz.zeroValue3,
  t4 := Tryz.underlying4,
  a4 := Tryz.isAgg4,
  z4 := Tryz.sizeOf4,
  v4 := Tryz.zeroValue4,
  t5 := Tryz.underlying5,
  a5 := Tryz.isAgg5,
  z5 := Tryz.sizeOf5,
  v5 := Tryz.zeroValue5,
  t9 := Tryz.underlying9,
  a9 := Tryz.isAgg9,
  z9 := Tryz.sizeOf9,
  v9 := Tryz.zeroValue9,
  t20 := Tryz.underlying20,
  a20 := Tryz.isAgg20,
  z20 := Tryz.sizeOf20,
  v20 := Tryz.zeroValue20,
  t21 := Tryz.underlying21,
  a21 := Tryz.isAgg21,
  z21 := Tryz.sizeOf21,
  v21 := Tryz.zeroValue21,
  t37 := Tryz.underlying87,
  a37 := Tryz.isAgg87,
  z37 := Tryz.sizeOf87,
  v37 := Tryz.zeroValue87,
  t46 := Tryz.underlying184,
  a46 := Tryz.isAgg184,
  z46 := Tryz.sizeOf184,
  v46 := Tryz.zeroValue184,
  t51 := Tryz.underlying198,
  a51 := Tryz.isAgg198,
  z51 := Tryz.sizeOf198,
  v51 := Tryz.zeroValue198,
  t70 := Tryz.underlying105,
  a70 := Tryz.isAgg105,
  z70 := Tryz.sizeOf105,
  v70 := Tryz.zeroValue105,
  t72 := Tryz.underlying107,
  a72 := Tryz.isAgg107,
  z72 := Tryz.sizeOf107,
  v72 := Tryz.zeroValue107,
  t75 := Tryz.underlying109,
  a75 := Tryz.isAgg109,
  z75 := Tryz.sizeOf109,
  v75 := Tryz.zeroValue109,
  t76 := Tryz.underlying110,
  a76 := Tryz.isAgg110,
  z76 := Tryz.sizeOf110,
  v76 := Tryz.zeroValue110,
  t105 := Tryz.underlying135,
  a105 := Tryz.isAgg135,
  z105 := Tryz.sizeOf135,
  v105 := Tryz.zeroValue135,
  t119 := Tryz.underlying185,
  a119 := Tryz.isAgg185,
  z119 := Tryz.sizeOf185,
  t127 := Tryz.underlying139,
  a127 := Tryz.isAgg139,
  z127 := Tryz.sizeOf139,
  v127 := Tryz.zeroValue139,
  t138 := Tryz.underlying187,
  a138 := Tryz.isAgg187,
  z138 := Tryz.sizeOf187,
  v138 := Tryz.zeroValue187,
  t139 := Tryz.underlying188,
  a139 := Tryz.isAgg188,
  z139 := Tryz.sizeOf188,
  v139 := Tryz.zeroValue188,
  t146 := Tryz.underlying201,
  a146 := Tryz.isAgg201,
  z146 := Tryz.sizeOf201,
  v146 := Tryz.zeroValue201,
  t164 := Tryz.underlying163,
  a164 := Tryz.isAgg163,
  z164 := Tryz.sizeOf163,
  v164 := Tryz.zeroValue163,
  g1 := by kernel_rfl,
  g3 := by kernel_rfl,
  g4 := by kernel_rfl }
theorem layRB : Builder.Extra Tryz.prog layR_ren := {
  sizeBuilder := by kernel_rfl,
  liesBuilder := by kernel_rfl,
  t5 := Tryz.underlying5,
  a5 := Tryz.isAgg5,
  z5 := Tryz.sizeOf5,
  v5 := Tryz.zeroValue5,
  infoByte := by kernel_rfl,
  cellsByte := by kernel_rfl,
  sizeByte := by kernel_rfl,
  neB5 := by decide }
/-- the library's own variable holds an integer -/
def MaxH (H : Heap) : Prop := ∃ cs T fz m, H (layR_ren.g 1) = some (.cells cs T fz) ∧ cs[0]? = some (.int .i64 m)
theorem MaxH.mono {B B' : Heap} (h : MaxH B) (hB : Heap.le B B') : MaxH B' := by
  obtain ⟨cs, T, fz, m, h, h2⟩ := h
  exact ⟨cs, T, fz, m, hB _ _ h, h2⟩
theorem max_of {W : World} (h : W.ShapedOpen Tryz.prog) : MaxH (fun b => W.heap[b]?) := by
  obtain ⟨m, hm⟩ := cell_of_shapedOpen_int (g := layR_ren.g 1) (t := 3) (zero := #[.int .i64 0]) (k := .i64) h (of_decide_eq_true (by kernel_rfl)) (by kernel_rfl) rfl (by kernel_rfl) (by kernel_rfl) Tryz.underlying3
  unfold World.cell? at hm
  split at hm
  · rename_i c T fz hc
    exact ⟨c, T, fz, m, hc, by simpa using hm⟩
  · cases hm
theorem replK_map : ∀ (l : List UInt8) (k : Nat), l.count 10 ≤ k → Lib.replaceK [10] [32] k l = l.map flB
  | [], 0, _ => rfl
  | [], k + 1, _ => by simp [Lib.replaceK, Lib.index]
  | b :: l, k, hk => by
    by_cases hb : b = 10
    · subst hb
      rw [List.count_cons_self] at hk
      obtain ⟨k, rfl⟩ : ∃ j, k = j + 1 := ⟨k - 1, by omega⟩
      rw [Lib.replaceK_hit [10] [32] k _ 0 (by simp [Lib.index, List.isPrefixOf])]
      simp [replK_map l k (by omega), flB]
    · rw [List.count_cons_of_ne hb] at hk
      have hix : Lib.index (b :: l) [10] = if Lib.index l [10] == -1 then -1 else Lib.index l [10] + 1 := by
        have hp : ([10] : List UInt8).isPrefixOf (b :: l) = false := by simp [List.isPrefixOf, Ne.symm hb]
        rw [Lib.index, hp]
        simp
      have hfb : flB b = b := if_neg hb
      cases k with
      | zero =>
        have := replK_map l 0 hk
        rw [Lib.replaceK] at this ⊢
        rw [List.map_cons, hfb, ← this]
      | succ k =>
        have ih := replK_map l (k + 1) hk
        rw [List.map_cons, hfb, ← ih]
        have hge := Lib.index_ge l [10]
        by_cases hm : Lib.index l [10] = -1
        · rw [Lib.replaceK, Lib.replaceK, hix, hm]
          simp
        · obtain ⟨i, hi⟩ : ∃ i : Nat, Lib.index l [10] = i := ⟨(Lib.index l [10]).toNat, by omega⟩
          have hi2 : Lib.index (b :: l) [10] = ((i + 1 : Nat) : Int) := by
            rw [hix, if_neg (by simpa using hm), hi]
            omega
          rw [Lib.replaceK_hit [10] [32] k l i hi, Lib.replaceK_hit [10] [32] k _ (i + 1) hi2]
          have e : i + 1 + [(10 : UInt8)].length = i + [(10 : UInt8)].length + 1 := by omega
          rw [e, List.drop_succ_cons, List.take_succ_cons]
          rfl
theorem replAll_map (l : List UInt8) : Lib.replaceAll l [10] [32] = l.map flB := by
  unfold Lib.replaceAll Lib.replace Lib.replaceNum
  rw [if_neg (by decide), if_pos (.inl (by decide)), Lib.count_one]
  exact replK_map l _ (Nat.le_refl _)
set_option maxHeartbeats 4000000 in
theorem replaceAll_ok (l : List UInt8) (hl : l.length ≤ 3000000000) : FunP Tryz.prog 28 [.string (bs l), .string ⟨#[10]⟩, .string ⟨#[32]⟩] MaxH (.string (bs (l.map flB))) := ⟨fun w hp => by
  obtain ⟨cs, T, fz, m, h, h2⟩ := hp
  have h' : w.heap[layR_ren.g 1]? = _ := h
  have hcount : Lib.countB (bs l) ⟨#[10]⟩ ≤ l.length := by
    show Lib.count l [10] ≤ l.length
    rw [Lib.count_one]
    exact List.count_le_length
  have hsz : (bs l).size = l.length := bs_size l
  refine (Any.strings_ReplaceAll layR layRB (bs l) ⟨#[10]⟩ ⟨#[32]⟩ m w (by rw [hsz]; omega) (by unfold World.cell?; rw [h']; simpa using h2) (Nat.le_refl 1) (by
    rw [hsz]
    show l.length + Lib.countB (bs l) ⟨#[10]⟩ * 1 ≤ _
    omega)).mono fun e w' ⟨he, hb⟩ => ⟨he.trans ?_, hb⟩
  rw [show (⟨#[10]⟩ : ByteArray).data.toList = [10] from rfl, show (⟨#[32]⟩ : ByteArray).data.toList = [32] from rfl, show (bs l).data.toList = l from rfl, replAll_map]⟩
end Go.Proofs.YtgmonjghbjaadaaGreatDoor.St
end
