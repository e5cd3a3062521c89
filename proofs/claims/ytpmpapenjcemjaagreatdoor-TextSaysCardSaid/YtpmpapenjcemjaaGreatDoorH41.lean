/- Zones: the end of zone.Make. No condition. -/
import Derived.Test.YtpmpapenjcemjaaGreatDoorH40
namespace Go.Proofs.YtpmpapenjcemjaaGreatDoor
set_option linter.unusedSimpArgs false
set_option linter.unusedVariables false
open Go Go.RowKit Go.Shelf
attribute [local go_sem] Nat.add_assoc Nat.add_lt_add_iff_left lit_lt_add
/-- The end of zone.Make, whatever stands in the other slots. -/
theorem zmake_end {tm : Array Value} {Y : World} {A : Nat} {z : Nat → Int} {e : Int} {Q : Ending → World → Prop} (h6 : tm[6]? = some (.pointer (some ⟨A, 0, none⟩))) (h7 : tm[7]? = some (.int .i64 e)) (hc : HoldsA Y A 6 (fun _ => 0))
    (hQ : Q (.returned (.tuple #[.agg #[.int .i64 (z 0), .int .i64 (z 1), .int .i64 (z 2), .int .i64 (z 3), .int .i64 (z 4), .int .i64 (z 5)], .int .i64 e])) ((((((Y.setCell ⟨A, 0, none⟩ (.int .i64 (z 0))).setCell ⟨A, 1, none⟩ (.int .i64 (z 1))).setCell ⟨A, 2, none⟩ (.int .i64 (z 2))).setCell ⟨A, 3, none⟩ (.int .i64 (z 3))).setCell ⟨A, 4, none⟩ (.int .i64 (z 4))).setCell ⟨A, 5, none⟩ (.int .i64 (z 5)))) :
    bodyPost Tryz.prog Tryz.f79 Q .ret { tmps := tm, defers := [] } ((((((Y.setCell ⟨A, 0, none⟩ (.int .i64 (z 0))).setCell ⟨A, 1, none⟩ (.int .i64 (z 1))).setCell ⟨A, 2, none⟩ (.int .i64 (z 2))).setCell ⟨A, 3, none⟩ (.int .i64 (z 3))).setCell ⟨A, 4, none⟩ (.int .i64 (z 4))).setCell ⟨A, 5, none⟩ (.int .i64 (z 5))) := by
  have r0 := (hc.holds 0 (by omega)).1
  have r1 := (hc.holds 1 (by omega)).1
  have r2 := (hc.holds 2 (by omega)).1
  have r3 := (hc.holds 3 (by omega)).1
  have r4 := (hc.holds 4 (by omega)).1
  have r5 := (hc.holds 5 (by omega)).1
  have rl := hc.lt
  refine bodyPost_ret (by simp [results, Tryz.results79, go_sem, h6, h7, r0, r1, r2, r3, r4, r5, rl]; try rfl) rfl ?_
  exact hQ
end Go.Proofs.YtpmpapenjcemjaaGreatDoor
