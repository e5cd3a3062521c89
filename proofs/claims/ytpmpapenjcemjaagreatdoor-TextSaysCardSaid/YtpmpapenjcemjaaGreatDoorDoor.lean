/- What a law's listed variables give its walk: the table of powers of ten. No condition. -/
import Derived.Test.YtpmpapenjcemjaaGreatDoorS1
import Derived.Test.YtpmpapenjcemjaaGreatDoorRows
import Derived.Lib.LaidU8
namespace Go.Proofs.YtpmpapenjcemjaaGreatDoor
set_option linter.unusedSimpArgs false
set_option linter.unusedVariables false
open Go Go.RowKit
theorem tab_of_reads {W : World} {n : String} (hg : Tryz.prog.globalNamed n = some 1) (h : Lib.VarReads Tryz.prog W n (Lib.tabData .u64 Lib.pow10Tab)) : Tab W := by
  intro nm hn
  obtain ⟨g, t, cs, fuel, p, h1, h2, h3, h4⟩ := h
  obtain rfl := Option.some.inj (hg.symm.trans h1)
  have hty : (Tryz.prog.globals[1]?).map (·.type) = some 264 := by kernel_rfl
  obtain rfl := Option.some.inj (hty.symm.trans h2)
  unfold Lib.TabIs
  rw [← Lib.cells_of_tab Tryz.underlying264 Tryz.underlying149 (by kernel_rfl) (by kernel_rfl) h4, ← h3]
  unfold World.var?
  rw [hn, h1]
#print axioms tab_of_reads
end Go.Proofs.YtpmpapenjcemjaaGreatDoor
