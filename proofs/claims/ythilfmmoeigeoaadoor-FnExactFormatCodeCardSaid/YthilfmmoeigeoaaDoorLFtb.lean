/-
  From the row's list of library tables to the condition on the heap.
-/
import Derived.Test.YthilfmmoeigeoaaDoorLFms
import Derived.Test.YthilfmmoeigeoaaDoorRows
import Derived.LaidMore
import Derived.Stop.LaidErr
import Derived.Lib.LaidTab
set_option linter.unusedSimpArgs false
set_option linter.unusedVariables false
namespace Go.Proofs.YthilfmmoeigeoaaDoor.St
open Go.RowKit
theorem tab_ofC {W : World} (h : laidMetH Tryd.prog Rows.fnExactFormatCodeRow.laid W) : TabH (fun b => W.heap[b]?) := by
  have h2 := laidMet.tail (laidMet.tail (show laidMet Tryd.prog Rows.fnExactFormatCodeRow.laid W from h))
  have h3 := Lib.tabIs_of_head (rest := []) (k := .u64) (zs := Lib.pow10Tab) layI.m17 (t := 126) (by kernel_rfl) Tryd.underlying126 Tryd.underlying110 (by kernel_rfl) (by kernel_rfl) h2
  unfold Lib.TabIs World.var? at h3
  rw [layI.m17] at h3
  simp only [Option.bind_some] at h3
  split at h3
  · rename_i cs T fz hc
    cases h3
    exact ⟨T, fz, hc⟩
  · cases h3
end Go.Proofs.YthilfmmoeigeoaaDoor.St
