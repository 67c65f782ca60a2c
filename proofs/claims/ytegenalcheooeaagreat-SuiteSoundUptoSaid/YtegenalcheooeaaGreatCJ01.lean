/- Of the proof of a law of the suites: SayP5. -/
import Derived.Test.YtegenalcheooeaaGreatB01
import Derived.Test.YtegenalcheooeaaGreatRows
import Derived.ProofKit
import Derived.OpenShut
import Derived.JoinedCond
/- SuiteSound: closed facts. -/
set_option linter.unusedSectionVars false
set_option linter.unusedSimpArgs false
set_option linter.unusedVariables false
namespace Go.Proofs.YtegenalcheooeaaGreat
open Go.RowKit
attribute [local go_sem] cell?_exto
theorem inPlace5 : (Rows.suiteSoundUptoRow.inPlace == Tryz.pinned.checked.prog.inPlace 5) = true := by kernel_rfl
theorem named5 : Tryz.pinned.checked.prog.funcNamed Rows.suiteSoundUptoRow.func = some 5 := by kernel_rfl
theorem unfollowed5 : (Rows.suiteSoundUptoRow.unfollowed == Tryz.pinned.checked.prog.unfollowed 5) = true := by kernel_rfl
theorem recurses5 : (Rows.suiteSoundUptoRow.recurses == Tryz.pinned.checked.prog.recurses 5) = true := by kernel_rfl
theorem varsNamed5 : (Rows.suiteSoundUptoRow.named == Tryz.pinned.checked.prog.varsNamed 5) = true := by kernel_rfl
theorem laid5 : laidOutB Tryz.pinned.checked.prog = true := by kernel_rfl
theorem maps5 : mapsRowed Tryz.pinned.checked.prog = true := by kernel_rfl
set_option maxHeartbeats 4000000 in
theorem closed5 : joinedFacts Tryz.pinned.checked.prog 5 Tryz.f5 (Rows.OpenSpec.upto Rows.suiteSoundSpec).bare Rows.suiteSoundUptoRow = true := by
  unfold joinedFacts
  simp only [inPlace5, unfollowed5, recurses5, varsNamed5, laid5, maps5, Bool.and_true, Bool.true_and, Bool.and_eq_true]
  repeat' apply And.intro
  all_goals (as_aux_lemma => kernel_rfl)
end Go.Proofs.YtegenalcheooeaaGreat

