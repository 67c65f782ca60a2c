/- Of the proof of a law of the suites: SayP3. -/
import Derived.Test.YtegenalcheooeaaGreatB01
import Derived.Test.YtegenalcheooeaaGreatRows
import Derived.ProofKit
import Derived.OpenShut
import Derived.JoinedCond
set_option linter.unusedSectionVars false
set_option linter.unusedSimpArgs false
set_option linter.unusedVariables false
namespace Go.Proofs.YtegenalcheooeaaGreat
open Go.RowKit
attribute [local go_sem] cell?_exto
section
theorem inPlace3:(Rows.suiteMustsUptoRow.inPlace == Tryz.pinned.checked.prog.inPlace 3)=true:=by kernel_rfl
theorem named3:Tryz.pinned.checked.prog.funcNamed Rows.suiteMustsUptoRow.func=some 3:=by kernel_rfl
theorem quq:(Rows.suiteMustsUptoRow.unfollowed == Tryz.pinned.checked.prog.unfollowed 3)=true:=by kernel_rfl
theorem recurses3:(Rows.suiteMustsUptoRow.recurses == Tryz.pinned.checked.prog.recurses 3)=true:=by kernel_rfl
theorem quo:(Rows.suiteMustsUptoRow.named == Tryz.pinned.checked.prog.varsNamed 3)=true:=by kernel_rfl
theorem laid3:laidOutB Tryz.pinned.checked.prog=true:=by kernel_rfl
theorem maps3:mapsRowed Tryz.pinned.checked.prog=true:=by kernel_rfl
set_option maxHeartbeats 4000000 in
theorem closed3:joinedFacts Tryz.pinned.checked.prog 3 Tryz.f3 (Rows.OpenSpec.upto Rows.suiteMustsSpec).bare Rows.suiteMustsUptoRow=true:=by
 unfold joinedFacts
 simp only [inPlace3,quq,recurses3,quo,laid3,maps3,Bool.and_true,Bool.true_and,Bool.and_eq_true]
 repeat' apply And.intro
 all_goals (as_aux_lemma=>kernel_rfl)
end
end Go.Proofs.YtegenalcheooeaaGreat
