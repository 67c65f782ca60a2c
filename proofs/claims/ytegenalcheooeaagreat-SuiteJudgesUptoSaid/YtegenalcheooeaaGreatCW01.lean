/- Of the proof of a law of the suites: SayP11. -/
import Derived.Test.YtegenalcheooeaaGreatB01
import Derived.Test.YtegenalcheooeaaGreatRows
import Derived.ProofKit
import Derived.OpenShut
import Derived.JoinedCond
set_option linter.unusedSectionVars false
set_option linter.unusedSimpArgs false
set_option linter.unusedVariables false
namespace Go.Proofs.YtegenalcheooeaaGreat
open Go.RowKit
attribute [local go_sem] cell?_exto
section
theorem inPlace11:(Rows.suiteJudgesUptoRow.inPlace == Tryz.pinned.checked.prog.inPlace 11)=true:=by kernel_rfl
theorem named11:Tryz.pinned.checked.prog.funcNamed Rows.suiteJudgesUptoRow.func=some 11:=by kernel_rfl
theorem quq:(Rows.suiteJudgesUptoRow.unfollowed == Tryz.pinned.checked.prog.unfollowed 11)=true:=by kernel_rfl
theorem qw4:(Rows.suiteJudgesUptoRow.recurses == Tryz.pinned.checked.prog.recurses 11)=true:=by kernel_rfl
theorem qwl:(Rows.suiteJudgesUptoRow.named == Tryz.pinned.checked.prog.varsNamed 11)=true:=by kernel_rfl
theorem laid11:laidOutB Tryz.pinned.checked.prog=true:=by kernel_rfl
theorem maps11:mapsRowed Tryz.pinned.checked.prog=true:=by kernel_rfl
set_option maxHeartbeats 4000000 in
theorem closed11:joinedFacts Tryz.pinned.checked.prog 11 Tryz.f11 (Rows.OpenSpec.upto Rows.suiteJudgesSpec).bare Rows.suiteJudgesUptoRow=true:=by
 unfold joinedFacts
 simp only [inPlace11,quq,qw4,qwl,laid11,maps11,Bool.and_true,Bool.true_and,Bool.and_eq_true]
 repeat' apply And.intro
 all_goals (as_aux_lemma=>kernel_rfl)
end
end Go.Proofs.YtegenalcheooeaaGreat
