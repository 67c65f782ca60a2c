/- Of the proof of a law of the suites: SayP7. -/
import Derived.Test.YtegenalcheooeaaGreatB01
import Derived.Test.YtegenalcheooeaaGreatRows
import Derived.ProofKit
import Derived.OpenShut
import Derived.JoinedCond
set_option linter.unusedSectionVars false
set_option linter.unusedSimpArgs false
set_option linter.unusedVariables false
namespace Go.Proofs.YtegenalcheooeaaGreat
open Go.RowKit
attribute [local go_sem] cell?_exto
section
theorem inPlace7 : (Rows.suiteTracesUptoRow.inPlace == Tryz.pinned.checked.prog.inPlace 7) = true := by kernel_rfl
theorem named7 : Tryz.pinned.checked.prog.funcNamed Rows.suiteTracesUptoRow.func = some 7 := by kernel_rfl
theorem unfollowed7 : (Rows.suiteTracesUptoRow.unfollowed == Tryz.pinned.checked.prog.unfollowed 7) = true := by kernel_rfl
theorem recurses7 : (Rows.suiteTracesUptoRow.recurses == Tryz.pinned.checked.prog.recurses 7) = true := by kernel_rfl
theorem varsNamed7 : (Rows.suiteTracesUptoRow.named == Tryz.pinned.checked.prog.varsNamed 7) = true := by kernel_rfl
theorem laid7 : laidOutB Tryz.pinned.checked.prog = true := by kernel_rfl
theorem maps7 : mapsRowed Tryz.pinned.checked.prog = true := by kernel_rfl
set_option maxHeartbeats 4000000 in
theorem closed7 : joinedFacts Tryz.pinned.checked.prog 7 Tryz.f7 (Rows.OpenSpec.upto Rows.suiteTracesSpec).bare Rows.suiteTracesUptoRow = true := by
 unfold joinedFacts
 simp only [inPlace7, unfollowed7, recurses7, varsNamed7, laid7, maps7, Bool.and_true, Bool.true_and, Bool.and_eq_true]
 repeat' apply And.intro
 all_goals (as_aux_lemma => kernel_rfl)
end
end Go.Proofs.YtegenalcheooeaaGreat
