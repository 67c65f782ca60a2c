/- Of the proof of a law of the suites: SayP10. -/
import Derived.Test.YtegenalcheooeaaGreatB01
import Derived.Test.YtegenalcheooeaaGreatRows
import Derived.ProofKit
import Derived.OpenShut
import Derived.JoinedCond
set_option linter.unusedSectionVars false
set_option linter.unusedSimpArgs false
set_option linter.unusedVariables false
namespace Go.Proofs.YtegenalcheooeaaGreat
open Go.RowKit
attribute [local go_sem] cell?_exto
section
theorem inPlace10:(Rows.suiteAfterUptoRow.inPlace == Tryz.pinned.checked.prog.inPlace 10)=true:=by kernel_rfl
theorem named10:Tryz.pinned.checked.prog.funcNamed Rows.suiteAfterUptoRow.func=some 10:=by kernel_rfl
theorem qtz:(Rows.suiteAfterUptoRow.unfollowed == Tryz.pinned.checked.prog.unfollowed 10)=true:=by kernel_rfl
theorem qty:(Rows.suiteAfterUptoRow.recurses == Tryz.pinned.checked.prog.recurses 10)=true:=by kernel_rfl
theorem qss:(Rows.suiteAfterUptoRow.named == Tryz.pinned.checked.prog.varsNamed 10)=true:=by kernel_rfl
theorem laid10:laidOutB Tryz.pinned.checked.prog=true:=by kernel_rfl
theorem maps10:mapsRowed Tryz.pinned.checked.prog=true:=by kernel_rfl
set_option maxHeartbeats 4000000 in
theorem closed10:joinedFacts Tryz.pinned.checked.prog 10 Tryz.f10 (Rows.OpenSpec.upto Rows.suiteAfterSpec).bare Rows.suiteAfterUptoRow=true:=by
 unfold joinedFacts
 simp only [inPlace10,qtz,qty,qss,laid10,maps10,Bool.and_true,Bool.true_and,Bool.and_eq_true]
 repeat' apply And.intro
 all_goals (as_aux_lemma=>kernel_rfl)
end
end Go.Proofs.YtegenalcheooeaaGreat
