/-
  Closed facts of the row of TextPrints, each by the kernel: the rest.
-/
import Derived.Test.YtbblbolpcdkggaaGreatFmtZ1
import Derived.Test.YtbblbolpcdkggaaGreatFmtCards
namespace Go.Proofs.YtbblbolpcdkggaaGreatFmt
open Go.Extern.Stop Go.Stop Go.Extern
set_option maxRecDepth 100000
theorem fact_hgoes : false = Rows.textPrintsRow.goesBy Tryz.pinned.checked.prog := by kernel_rfl
theorem fact_e2 : Tryz.pinned.checked.prog.mayEnter = true := by kernel_rfl
theorem fact_e5 : Tryz.pinned.checked.prog.stopsHeard = true := by kernel_rfl
theorem fact_e10 : Rows.textPrintsRow.plainKeys = Tryz.pinned.checked.prog.plainKeys := by kernel_rfl
theorem fact_hw : Rows.textPrintsRow.wfByText (OpenSpec.ofChange Rows.textPrintsSpec) = true := by kernel_rfl
theorem fact_hmain : Tryz.pinned.checked.prog.mainIs = some (true, "9c0e4d216705248b8e2b62ef2340bd0200445c90ea156c6901dd566d2189677a".toList) := by kernel_rfl
theorem fact_hlooks : true = Tryz.pinned.checked.prog.looks [] := by kernel_rfl
theorem fact_e11 : Rows.textPrintsRow.lifted = Tryz.pinned.checked.prog.liftsFinal := by kernel_rfl
theorem fact_e12 : Tryz.pinned.checked.prog.make = some Rows.textPrintsRow.make := by kernel_rfl
theorem fact_v1 : Rows.textPrintsRow.veiled = (Tryz.f3.params.toList ++ (OpenSpec.ofChange Rows.textPrintsSpec).bare.plain.varTypes Tryz.pinned.checked.prog ++ Tryz.f3.resultTypes.toList).any (Tryz.pinned.checked.prog.veiledRec ·) := by kernel_rfl
theorem fact_v2 : Rows.textPrintsRow.veiledFits Tryz.pinned.checked.prog Tryz.f3.params.toList (Tryz.f3.params.toList ++ (OpenSpec.ofChange Rows.textPrintsSpec).bare.plain.varTypes Tryz.pinned.checked.prog ++ Tryz.f3.resultTypes.toList) = true := by kernel_rfl
end Go.Proofs.YtbblbolpcdkggaaGreatFmt
