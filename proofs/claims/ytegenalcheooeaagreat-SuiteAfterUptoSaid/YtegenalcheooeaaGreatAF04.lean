/- Of the proof of a law of the suites: PMust. -/
import Derived.Test.YtegenalcheooeaaGreatB07
import Derived.Test.YtegenalcheooeaaGreatB24
import Derived.Test.YtegenalcheooeaaGreatB25
set_option linter.unusedSectionVars false
set_option linter.unusedSimpArgs false
set_option linter.unusedVariables false
namespace Go.Proofs.YtegenalcheooeaaGreat
open Go.RowKit
attribute [local go_sem] cell?_exto
section

def Inc (l:List Lb):Prop:=l.Pairwise fun a b=>qan a b<0
theorem Inc.get {l:List Lb} (h:Inc l) {i j:Nat} (hij:i<j) (hj:j<l.length):qan (l[i]'(by omega)) l[j]<0:=List.pairwise_iff_getElem.1 h i j (by omega) hj hij
section
variable {α:Type} {cf:α->α->Int} {eq:α->α->Bool}
theorem qo7 (he:∀ x y,eq x y=true↔x=y):∀ (ys:List α) (p x:α),(x=p∨x∈qcg eq p ys)↔x∈p :: ys
 | [],p,x=>by simp [qcg]
 | y :: ys,p,x=>by
  have ih:=qo7 he ys y x
  rw [qcg]
  by_cases h:eq y p=true
  ·have e:=(he y p).1 h
   subst e
   rw [if_pos h,ih]
   simp
  ·rw [if_neg h,List.mem_cons,ih,List.mem_cons,List.mem_cons,List.mem_cons]
theorem qjw (he:∀ x y,eq x y=true↔x=y) (l:List α) (x:α):x∈qaw eq l↔x∈l:=by
 cases l with
 | nil=>rw [qaw]
 | cons p ys=>rw [qaw,List.mem_cons,qo7 he]
theorem qp6 (h:qc7 cf) (he:∀ x y,eq x y=true↔x=y):∀ (ys:List α) (p:α),Srt cf (p :: ys)->(p :: qcg eq p ys).Pairwise fun a b=>cf a b<0
 | [],p,_=>by rw [qcg];exact List.pairwise_singleton _ _
 | y :: ys,p,hs=>by
  have hs':=List.pairwise_cons.1 hs
  have ih:=qp6 h he ys y hs'.2
  rw [qcg]
  by_cases e:eq y p=true
  ·rw [if_pos e]
   have e':=(he y p).1 e
   subst e'
   exact ih
  ·rw [if_neg e]
   have hpy:cf p y<0:=by
    have h1:=hs'.1 y (by simp)
    have h2:cf p y≠0:=fun h0=>e ((he y p).2 (h.eq p y h0).symm)
    omega
   refine List.pairwise_cons.2 ⟨fun z hz=>?_,ih⟩
   rcases List.mem_cons.1 hz with rfl | hz
   ·exact hpy
   ·exact h.trans _ _ _ hpy ((List.pairwise_cons.1 ih).1 z hz)
theorem qke (h:qc7 cf) (he:∀ x y,eq x y=true↔x=y) (l:List α) (hs:Srt cf l):(qaw eq l).Pairwise fun a b=>cf a b<0:=by
 cases l with
 | nil=>exact List.Pairwise.nil
 | cons p ys=>exact qp6 h he ys p hs
end
end
end Go.Proofs.YtegenalcheooeaaGreat
