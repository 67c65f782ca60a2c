/- Of the proof of a law of the suites: SayP6. -/
import Derived.Test.YtegenalcheooeaaGreatB01
import Derived.Test.YtegenalcheooeaaGreatRows
import Derived.ProofKit
import Derived.OpenShut
import Derived.JoinedCond
/- SuiteLeast: closed facts. -/
set_option linter.unusedSectionVars false
set_option linter.unusedSimpArgs false
set_option linter.unusedVariables false
namespace Go.Proofs.YtegenalcheooeaaGreat
open Go.RowKit
attribute [local go_sem] cell?_exto
theorem inPlace6 : (Rows.suiteLeastUptoRow.inPlace == Tryz.pinned.checked.prog.inPlace 6) = true := by kernel_rfl
theorem named6 : Tryz.pinned.checked.prog.funcNamed Rows.suiteLeastUptoRow.func = some 6 := by kernel_rfl
theorem unfollowed6 : (Rows.suiteLeastUptoRow.unfollowed == Tryz.pinned.checked.prog.unfollowed 6) = true := by kernel_rfl
theorem recurses6 : (Rows.suiteLeastUptoRow.recurses == Tryz.pinned.checked.prog.recurses 6) = true := by kernel_rfl
theorem varsNamed6 : (Rows.suiteLeastUptoRow.named == Tryz.pinned.checked.prog.varsNamed 6) = true := by kernel_rfl
theorem laid6 : laidOutB Tryz.pinned.checked.prog = true := by kernel_rfl
theorem maps6 : mapsRowed Tryz.pinned.checked.prog = true := by kernel_rfl
set_option maxHeartbeats 4000000 in
theorem closed6 : joinedFacts Tryz.pinned.checked.prog 6 Tryz.f6 (Rows.OpenSpec.upto Rows.suiteLeastSpec).bare Rows.suiteLeastUptoRow = true := by
  unfold joinedFacts
  simp only [inPlace6, unfollowed6, recurses6, varsNamed6, laid6, maps6, Bool.and_true, Bool.true_and, Bool.and_eq_true]
  repeat' apply And.intro
  all_goals (as_aux_lemma => kernel_rfl)
end Go.Proofs.YtegenalcheooeaaGreat

