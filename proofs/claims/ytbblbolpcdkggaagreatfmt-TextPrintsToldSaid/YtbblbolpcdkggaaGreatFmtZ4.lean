/-
  PROVED: for every slice of strings surdlaw29.TextPrints returns true and leaves its argument as it was (the told and tied card TextPrintsToldSaid).
  CONDITIONS: the fifteen listed package-level variables hold what the program's text lays (the card ties them); fmt's text is told by a Lean function of the kit's authors (the road names fmt.Sprintf; no run comes to it);
  the package-level variables that the row names and does not list (math/big's stackPool, cacheBase10, natOne, intOne, sync's allPools, allPoolsMu, ..) hold whatever they hold: the run reads none of them.
-/
import Derived.Test.YtbblbolpcdkggaaGreatFmtZ2
import Derived.Test.YtbblbolpcdkggaaGreatFmtZ3
import Derived.SevenToldRow
namespace Go.Proofs.YtbblbolpcdkggaaGreatFmt
open Go.Extern.Stop Go.Stop Go.Extern
theorem stopsT : Tryz.prog.stops = ["fmt.Sprintf"] := by kernel_rfl
theorem stopKnobsT : Tryz.prog.stopKnobs = [] := by kernel_rfl
theorem quietT (os : Os) : Stop.quiet Tryz.pinned.checked.prog os := by
  intro k hk
  have h : Tryz.pinned.checked.prog.stopKnobs = [] := stopKnobsT
  rw [h] at hk
  cases hk
theorem wrapT : Tryz.f3.isWrapper Tryz.pinned.checked.prog Rows.textPrintsRow.wrapper Rows.textPrintsRow.mainSum := by
  unfold Func.isWrapper; first | (rw [if_pos (by decide +kernel)]; kernel_rfl) | (rw [if_neg (by decide +kernel)]; exact ⟨rfl, rfl⟩)
set_option maxRecDepth 100000 in
theorem textPrints_holds : Rows.TextPrintsToldSaid :=
  Claim7.holds_of_told_tied_any_at .later 3 Tryz.f3 "fmt.Sprintf" [] [] _ _ _ _ _ fact_hw rfl rfl rfl laidOutT (by kernel_rfl) rfl ⟨rfl, rfl, rfl, rfl, rfl, rfl, rfl⟩ rfl rfl (by kernel_rfl) (by kernel_rfl) Tryz.func3 (by kernel_rfl)
    (of_decide_eq_true (by kernel_rfl)) wrapT stopsT.symm rfl stopKnobsT.symm (by kernel_rfl)
    fact_hin fact_hop fact_hrc fact_hvs (by kernel_rfl) (by kernel_rfl) (by kernel_rfl) (by kernel_rfl) (by kernel_rfl) rfl (by kernel_rfl) rfl rfl
    rfl rfl
    rfl fact_hmain fact_hlooks (by kernel_rfl) (by decide) fact_hgoes textPrints_row_tie
    (OpenClaim.moreEntering_of fact_e2 (by kernel_rfl) fact_e5 (by kernel_rfl) (by kernel_rfl) (by kernel_rfl) (by kernel_rfl) fact_e10 fact_e11 fact_e12)
    ⟨_, WideRow.started_initial, quietT _⟩
    (fun os started _ H enc _ => lifted os started H enc) ⟨fact_v1, fact_v2⟩
#print axioms textPrints_holds
end Go.Proofs.YtbblbolpcdkggaaGreatFmt
