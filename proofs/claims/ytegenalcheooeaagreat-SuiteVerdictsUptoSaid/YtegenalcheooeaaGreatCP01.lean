/- Of the proof of a law of the suites: SayP9. -/
import Derived.Test.YtegenalcheooeaaGreatB01
import Derived.Test.YtegenalcheooeaaGreatRows
import Derived.ProofKit
import Derived.OpenShut
import Derived.JoinedCond
/- SuiteVerdicts: closed facts. -/
set_option linter.unusedSectionVars false
set_option linter.unusedSimpArgs false
set_option linter.unusedVariables false
namespace Go.Proofs.YtegenalcheooeaaGreat
open Go.RowKit
attribute [local go_sem] cell?_exto
theorem inPlace9 : (Rows.suiteVerdictsUptoRow.inPlace == Tryz.pinned.checked.prog.inPlace 9) = true := by kernel_rfl
theorem named9 : Tryz.pinned.checked.prog.funcNamed Rows.suiteVerdictsUptoRow.func = some 9 := by kernel_rfl
theorem unfollowed9 : (Rows.suiteVerdictsUptoRow.unfollowed == Tryz.pinned.checked.prog.unfollowed 9) = true := by kernel_rfl
theorem recurses9 : (Rows.suiteVerdictsUptoRow.recurses == Tryz.pinned.checked.prog.recurses 9) = true := by kernel_rfl
theorem varsNamed9 : (Rows.suiteVerdictsUptoRow.named == Tryz.pinned.checked.prog.varsNamed 9) = true := by kernel_rfl
theorem laid9 : laidOutB Tryz.pinned.checked.prog = true := by kernel_rfl
theorem maps9 : mapsRowed Tryz.pinned.checked.prog = true := by kernel_rfl
set_option maxHeartbeats 4000000 in
theorem closed9 : joinedFacts Tryz.pinned.checked.prog 9 Tryz.f9 (Rows.OpenSpec.upto Rows.suiteVerdictsSpec).bare Rows.suiteVerdictsUptoRow = true := by
  unfold joinedFacts
  simp only [inPlace9, unfollowed9, recurses9, varsNamed9, laid9, maps9, Bool.and_true, Bool.true_and, Bool.and_eq_true]
  repeat' apply And.intro
  all_goals (as_aux_lemma => kernel_rfl)
end Go.Proofs.YtegenalcheooeaaGreat

