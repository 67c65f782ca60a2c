/- Of the proof of a law of the suites: SayP8. -/
import Derived.Test.YtegenalcheooeaaGreatB01
import Derived.Test.YtegenalcheooeaaGreatRows
import Derived.ProofKit
import Derived.OpenShut
import Derived.JoinedCond
/- SuiteCovered: closed facts. -/
set_option linter.unusedSectionVars false
set_option linter.unusedSimpArgs false
set_option linter.unusedVariables false
namespace Go.Proofs.YtegenalcheooeaaGreat
open Go.RowKit
attribute [local go_sem] cell?_exto
theorem inPlace8 : (Rows.suiteCoveredUptoRow.inPlace == Tryz.pinned.checked.prog.inPlace 8) = true := by kernel_rfl
theorem named8 : Tryz.pinned.checked.prog.funcNamed Rows.suiteCoveredUptoRow.func = some 8 := by kernel_rfl
theorem unfollowed8 : (Rows.suiteCoveredUptoRow.unfollowed == Tryz.pinned.checked.prog.unfollowed 8) = true := by kernel_rfl
theorem recurses8 : (Rows.suiteCoveredUptoRow.recurses == Tryz.pinned.checked.prog.recurses 8) = true := by kernel_rfl
theorem varsNamed8 : (Rows.suiteCoveredUptoRow.named == Tryz.pinned.checked.prog.varsNamed 8) = true := by kernel_rfl
theorem laid8 : laidOutB Tryz.pinned.checked.prog = true := by kernel_rfl
theorem maps8 : mapsRowed Tryz.pinned.checked.prog = true := by kernel_rfl
set_option maxHeartbeats 4000000 in
theorem closed8 : joinedFacts Tryz.pinned.checked.prog 8 Tryz.f8 (Rows.OpenSpec.upto Rows.suiteCoveredSpec).bare Rows.suiteCoveredUptoRow = true := by
  unfold joinedFacts
  simp only [inPlace8, unfollowed8, recurses8, varsNamed8, laid8, maps8, Bool.and_true, Bool.true_and, Bool.and_eq_true]
  repeat' apply And.intro
  all_goals (as_aux_lemma => kernel_rfl)
end Go.Proofs.YtegenalcheooeaaGreat

