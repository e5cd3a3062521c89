/- What a law's listed variables give its walk: the table of powers of ten. No condition. -/
import Derived.Test.YtpaomeilfmeheaaDoorS1
import Derived.Test.YtpaomeilfmeheaaDoorRows
import Derived.Lib.LaidU8
namespace Go.Proofs.YtpaomeilfmeheaaDoor
set_option linter.unusedSimpArgs false
set_option linter.unusedVariables false
open Go Go.RowKit
theorem tab_of_reads {W : World} {n : String} (hg : Tryd.prog.globalNamed n = some 0) (h : Lib.VarReads Tryd.prog W n (Lib.tabData .u64 Lib.pow10Tab)) : Tab W := by
  intro nm hn
  obtain ⟨g, t, cs, fuel, p, h1, h2, h3, h4⟩ := h
  obtain rfl := Option.some.inj (hg.symm.trans h1)
  have hty : (Tryd.prog.globals[0]?).map (·.type) = some 186 := by kernel_rfl
  obtain rfl := Option.some.inj (hty.symm.trans h2)
  unfold Lib.TabIs
  rw [← Lib.cells_of_tab Tryd.underlying186 Tryd.underlying146 (by kernel_rfl) (by kernel_rfl) h4, ← h3]
  unfold World.var?
  rw [hn, h1]
#print axioms tab_of_reads
end Go.Proofs.YtpaomeilfmeheaaDoor
