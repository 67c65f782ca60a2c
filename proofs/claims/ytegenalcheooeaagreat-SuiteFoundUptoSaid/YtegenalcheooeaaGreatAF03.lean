/- Of the proof of a law of the suites: RVal, RVis, RFirst, ROut, RListed, RMarks, RSys, RClosed, RClosed2, RStart, RMoved, RAfter. -/
import Derived.Test.YtegenalcheooeaaGreatB04
import Derived.Test.YtegenalcheooeaaGreatB05
import Derived.Test.YtegenalcheooeaaGreatB06
import Derived.Test.YtegenalcheooeaaGreatB10
import Derived.Test.YtegenalcheooeaaGreatB11
import Derived.Test.YtegenalcheooeaaGreatB15
import Derived.Test.YtegenalcheooeaaGreatB18
import Derived.Test.YtegenalcheooeaaGreatB20
import Derived.Test.YtegenalcheooeaaGreatB21
set_option linter.unusedSectionVars false
set_option linter.unusedSimpArgs false
set_option linter.unusedVariables false
namespace Go.Proofs.YtegenalcheooeaaGreat
open Go.RowKit
attribute [local go_sem] cell?_exto
section

mutual
def qbh:Tm->Int->Int->Int×Bool
 | .mk _ _ l,left,deep=>if left-1<0∨200<deep then (left-1,false) else qbo l (left-1) deep
def qbo:List Tm->Int->Int->Int×Bool
 | [],left,_=>(left,true)
 | x :: xs,left,deep=>if (qbh x left (deep+1)).2=true then qbo xs (qbh x left (deep+1)).1 deep else ((qbh x left (deep+1)).1,false)
end
def ovr (s:Int×Int):Prop:=s.1 > 2000∨s.2 > 200
theorem qql:∀ (l:List Tm) (d:Int) (s:Int×Int),ovr s->qd2 l d s=s
 | [],d,s,_=>by rw [qd2]
 | x :: xs,d,s,h=>by rw [qd2,if_pos (show s.1 > 2000∨s.2 > 200 from h)]
mutual
theorem cntR_eq:∀ (t:Tm) (d:Int) (s:Int×Int),¬ ovr s->((qbh t (2000-s.1) d).2=true↔¬ ovr (qcd t d s))∧((qbh t (2000-s.1) d).2=true->(qbh t (2000-s.1) d).1=2000-(qcd t d s).1)
 | .mk _ _ l,d,s,h=>by
  have h0:¬ (s.1 > 2000∨s.2 > 200):=h
  rw [qbh,qcd]
  by_cases ho:ovr (s.1+1,if s.2<d then d else s.2)
  ·have ho':s.1+1 > 2000∨(if s.2<d then d else s.2) > 200:=ho
   have hc:2000-s.1-1<0∨200<d:=by
    rcases ho' with h1 | h1
    ·left;omega
    ·right;split at h1 <;> omega
   rw [if_pos hc,qql l d _ ho]
   exact ⟨⟨fun h=>(by cases h),fun h=>absurd ho h⟩,fun h=>by cases h⟩
  ·have ho':¬ (s.1+1 > 2000∨(if s.2<d then d else s.2) > 200):=ho
   have hc:¬ (2000-s.1-1<0∨200<d):=by
    intro h1
    refine ho' (h1.elim (fun h=>.inl (by omega)) fun h=>.inr ?_)
    split <;> omega
   rw [if_neg hc]
   have:=qs9 l d (s.1+1,if s.2<d then d else s.2) ho
   simp only at this
   rw [show 2000-s.1-1=2000-(s.1+1) by omega]
   exact this
theorem qs9:∀ (l:List Tm) (d:Int) (s:Int×Int),¬ ovr s->((qbo l (2000-s.1) d).2=true↔¬ ovr (qd2 l d s))∧((qbo l (2000-s.1) d).2=true->(qbo l (2000-s.1) d).1=2000-(qd2 l d s).1)
 | [],d,s,h=>by
  rw [qbo,qd2]
  exact ⟨⟨fun _=>h,fun _=>rfl⟩,fun _=>rfl⟩
 | x :: xs,d,s,h=>by
  have hx:=cntR_eq x (d+1) s h
  rw [qbo,qd2,if_neg (show ¬ (s.1 > 2000∨s.2 > 200) from h)]
  by_cases hc:(qbh x (2000-s.1) (d+1)).2=true
  ·rw [if_pos hc,hx.2 hc]
   exact qs9 xs d _ (hx.1.1 hc)
  ·have ho:ovr (qcd x (d+1) s):=Classical.byContradiction fun hn=>hc (hx.1.2 hn)
   rw [if_neg hc,qql xs d _ ho]
   exact ⟨⟨fun h=>(by cases h),fun h=>absurd ho h⟩,fun h=>by cases h⟩
end
mutual
def qdz:Tm->Bool
 | .mk k n l=>!(decide (n<0) || (decide (k≠1) && decide (k≠2)) || (decide (k=1) && decide (0<l.length)) || decide (8<l.length)) && qdw l
def qdw:List Tm->Bool
 | []=>true
 | x :: xs=>qdz x && qdw xs
end
mutual
theorem qr2:∀ t,qbc t=true->qdz t=true
 | .mk k n l,h=>by
  rw [qbc] at h
  simp only [Bool.and_eq_true,decide_eq_true_eq] at h
  rw [qdz,qpz l h.2,Bool.and_true,Bool.not_eq_true']
  obtain ⟨⟨⟨⟨h1,h2⟩,h3⟩,h4⟩,_⟩:=h
  rw [decide_eq_false (by omega),decide_eq_false (by omega:¬ 8<l.length),show decide (k≠2)=false from decide_eq_false (by omega),show decide (k=1)=false from decide_eq_false (by omega)]
  simp
theorem qpz:∀ l,qdb l=true->qdw l=true
 | [],_=>by rw [qdw]
 | x :: xs,h=>by
  rw [qdb,Bool.and_eq_true] at h
  rw [qdw,qr2 x h.1,qpz xs h.2]
  rfl
end
end
section

mutual
theorem cntR_le:∀ (t:Tm) (left d:Int),0<=left -> -1<=(qbh t left d).1∧(qbh t left d).1<=left∧((qbh t left d).2=true->0<=(qbh t left d).1)
 | .mk _ _ l,left,d,h=>by
  rw [qbh]
  by_cases hc:left-1<0∨200<d
  ·rw [if_pos hc]
   exact ⟨by show -1<=left-1;omega,by show left-1<=left;omega,fun h=>by cases h⟩
  ·rw [if_neg hc]
   have:=qo2 l (left-1) d (by omega)
   exact ⟨this.1,by omega,this.2.2⟩
theorem qo2:∀ (l:List Tm) (left d:Int),0<=left -> -1<=(qbo l left d).1∧(qbo l left d).1<=left∧((qbo l left d).2=true->0<=(qbo l left d).1)
 | [],left,d,h=>by rw [qbo];exact ⟨by show -1<=left;omega,Int.le_refl _,fun _=>h⟩
 | x :: xs,left,d,h=>by
  have hx:=cntR_le x left (d+1) h
  rw [qbo]
  by_cases hc:(qbh x left (d+1)).2=true
  ·rw [if_pos hc]
   have:=qo2 xs _ d (hx.2.2 hc)
   exact ⟨this.1,by omega,this.2.2⟩
  ·rw [if_neg hc]
   exact ⟨hx.1,hx.2.1,fun h=>by cases h⟩
end
end
section
end
section
end
section
open Go.Shelf
def qdk (l:List Bool) (i:Nat):Bool:=l.getD i false
end
section
end
section
theorem qhs (s:Sy) (e:Ed):qbw s e=true↔0<=e.f∧e.f<s.n∧0<=e.t∧e.t<s.n∧0<=e.l∧e.l<s.ls.length:=by
 simp only [qbw,isB,Bool.and_eq_true,decide_eq_true_eq]
 omega
end
section
open Go.Shelf
end
section
open Go.Shelf
end
section
open Go.Shelf
def bs0 (n:Nat):List Bool:=(List.replicate n false).set 0 true
end
section
open Go.Shelf
def mvB (s:Sy) (x:Lb) (bs:List Bool) (e:Ed):Bool:=qdk bs e.f.toNat && (match s.ls[e.l.toNat]? with | some y=>qa3 y x | none=>false)
def mvL (s:Sy) (x:Lb) (bs:List Bool) (k:Nat):List Int:=((s.es.take k).filter (mvB s x bs)).map (·.t)
end
section
open Go.Shelf
end
end Go.Proofs.YtegenalcheooeaaGreat
