/- Of the proof of a law of the suites: SayP13. -/
import Derived.Test.YtegenalcheooeaaGreatB01
import Derived.Test.YtegenalcheooeaaGreatRows
import Derived.ProofKit
import Derived.OpenShut
import Derived.JoinedCond
set_option linter.unusedSectionVars false
set_option linter.unusedSimpArgs false
set_option linter.unusedVariables false
namespace Go.Proofs.YtegenalcheooeaaGreat
open Go.RowKit
attribute [local go_sem] cell?_exto
section
theorem inPlace13:(Rows.suiteFoundUptoRow.inPlace == Tryz.pinned.checked.prog.inPlace 13)=true:=by kernel_rfl
theorem named13:Tryz.pinned.checked.prog.funcNamed Rows.suiteFoundUptoRow.func=some 13:=by kernel_rfl
theorem qu5:(Rows.suiteFoundUptoRow.unfollowed == Tryz.pinned.checked.prog.unfollowed 13)=true:=by kernel_rfl
theorem qvh:(Rows.suiteFoundUptoRow.recurses == Tryz.pinned.checked.prog.recurses 13)=true:=by kernel_rfl
theorem qt8:(Rows.suiteFoundUptoRow.named == Tryz.pinned.checked.prog.varsNamed 13)=true:=by kernel_rfl
theorem laid13:laidOutB Tryz.pinned.checked.prog=true:=by kernel_rfl
theorem maps13:mapsRowed Tryz.pinned.checked.prog=true:=by kernel_rfl
set_option maxHeartbeats 4000000 in
theorem closed13:joinedFacts Tryz.pinned.checked.prog 13 Tryz.f13 (Rows.OpenSpec.upto Rows.suiteFoundSpec).bare Rows.suiteFoundUptoRow=true:=by
 unfold joinedFacts
 simp only [inPlace13,qu5,qvh,qt8,laid13,maps13,Bool.and_true,Bool.true_and,Bool.and_eq_true]
 repeat' apply And.intro
 all_goals (as_aux_lemma=>kernel_rfl)
end
end Go.Proofs.YtegenalcheooeaaGreat
