/- Of the proof of a law of the suites: SayP12. -/
import Derived.Test.YtegenalcheooeaaGreatB01
import Derived.Test.YtegenalcheooeaaGreatRows
import Derived.ProofKit
import Derived.OpenShut
import Derived.JoinedCond
set_option linter.unusedSectionVars false
set_option linter.unusedSimpArgs false
set_option linter.unusedVariables false
namespace Go.Proofs.YtegenalcheooeaaGreat
open Go.RowKit
attribute [local go_sem] cell?_exto
set_option maxHeartbeats 16000000
set_option maxRecDepth 100000
section
theorem inPlace12:(Rows.suiteCoversUptoRow.inPlace == Tryz.pinned.checked.prog.inPlace 12)=true:=by kernel_rfl
theorem named12:Tryz.pinned.checked.prog.funcNamed Rows.suiteCoversUptoRow.func=some 12:=by kernel_rfl
theorem qxk:(Rows.suiteCoversUptoRow.unfollowed == Tryz.pinned.checked.prog.unfollowed 12)=true:=by kernel_rfl
theorem qzd:(Rows.suiteCoversUptoRow.recurses == Tryz.pinned.checked.prog.recurses 12)=true:=by kernel_rfl
theorem qyw:(Rows.suiteCoversUptoRow.named == Tryz.pinned.checked.prog.varsNamed 12)=true:=by kernel_rfl
theorem laid12:laidOutB Tryz.pinned.checked.prog=true:=by kernel_rfl
theorem maps12:mapsRowed Tryz.pinned.checked.prog=true:=by kernel_rfl
theorem closed12:joinedFacts Tryz.pinned.checked.prog 12 Tryz.f12 (Rows.OpenSpec.upto Rows.suiteCoversSpec).bare Rows.suiteCoversUptoRow=true:=by
 unfold joinedFacts;simp only[inPlace12,qxk,qzd,qyw,laid12,maps12,Bool.and_true,Bool.true_and,Bool.and_eq_true]
 repeat' apply And.intro
 all_goals (as_aux_lemma=>kernel_rfl)
end
end Go.Proofs.YtegenalcheooeaaGreat
