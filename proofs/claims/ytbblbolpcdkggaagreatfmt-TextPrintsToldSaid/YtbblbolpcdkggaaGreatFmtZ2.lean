/-
  Closed facts of the row of TextPrints, each by the kernel: what its road names and calls.
-/
import Derived.Test.YtbblbolpcdkggaaGreatFmtZ1
import Derived.Test.YtbblbolpcdkggaaGreatFmtCards
namespace Go.Proofs.YtbblbolpcdkggaaGreatFmt
open Go.Extern.Stop Go.Stop Go.Extern
set_option maxRecDepth 100000
theorem fact_hin : Rows.textPrintsRow.inPlace = Tryz.pinned.checked.prog.inPlace 3 := by kernel_rfl
theorem fact_hop : Rows.textPrintsRow.unfollowed = Tryz.pinned.checked.prog.unfollowed 3 := by kernel_rfl
theorem fact_hrc : Rows.textPrintsRow.recurses = Tryz.pinned.checked.prog.recurses 3 := by kernel_rfl
theorem fact_hvs : Rows.textPrintsRow.named = Tryz.pinned.checked.prog.varsNamed 3 := by kernel_rfl
end Go.Proofs.YtbblbolpcdkggaaGreatFmt
