/- Of the proof of a law of the suites: RVal, RVis. -/
import Derived.Test.YtegenalcheooeaaGreatB04
import Derived.Test.YtegenalcheooeaaGreatB05
import Derived.Test.YtegenalcheooeaaGreatB18
set_option linter.unusedSectionVars false
set_option linter.unusedSimpArgs false
set_option linter.unusedVariables false
namespace Go.Proofs.YtegenalcheooeaaGreat
open Go.RowKit
attribute [local go_sem] cell?_exto
section
set_option maxHeartbeats 1000000
set_option maxRecDepth 100000
/- The reference's values: madrigalref17.Value and what it calls: walked. -/
mutual
def qbq:Tm->Int->Int->Int×Bool
 | .mk _ _ l,left,deep=>if left-1<0∨200<deep then (left-1,false) else qbw l (left-1) deep
def qbw:List Tm->Int->Int->Int×Bool
 | [],left,_=>(left,true)
 | x :: xs,left,deep=>if (qbq x left (deep+1)).2=true then qbw xs (qbq x left (deep+1)).1 deep else ((qbq x left (deep+1)).1,false)
end
def ovr (s:Int×Int):Prop:=s.1 > 2000∨s.2 > 200
theorem qrd:∀ (l:List Tm) (d:Int) (s:Int×Int),ovr s->qei l d s=s
 | [],d,s,_=>by rw [qei]
 | x :: xs,d,s,h=>by rw [qei,if_pos (show s.1 > 2000∨s.2 > 200 from h)]
mutual
theorem cntR_eq:∀ (t:Tm) (d:Int) (s:Int×Int),¬ ovr s->((qbq t (2000-s.1) d).2=true↔¬ ovr (qcn t d s))∧((qbq t (2000-s.1) d).2=true->(qbq t (2000-s.1) d).1=2000-(qcn t d s).1)
 | .mk _ _ l,d,s,h=>by
  have h0:¬ (s.1 > 2000∨s.2 > 200):=h
  rw [qbq,qcn]
  by_cases ho:ovr (s.1+1,if s.2<d then d else s.2)
  ·have ho':s.1+1 > 2000∨(if s.2<d then d else s.2) > 200:=ho
   have hc:2000-s.1-1<0∨200<d:=by
    rcases ho' with h1 | h1
    ·left;omega
    ·right;split at h1 <;> omega
   rw [if_pos hc,qrd l d _ ho]
   exact ⟨⟨fun h=>(by cases h),fun h=>absurd ho h⟩,fun h=>by cases h⟩
  ·have ho':¬ (s.1+1 > 2000∨(if s.2<d then d else s.2) > 200):=ho
   have hc:¬ (2000-s.1-1<0∨200<d):=by
    intro h1
    refine ho' (h1.elim (fun h=>.inl (by omega)) fun h=>.inr ?_)
    split <;> omega
   rw [if_neg hc]
   have:=qsy l d (s.1+1,if s.2<d then d else s.2) ho
   simp only at this
   rw [show 2000-s.1-1=2000-(s.1+1) by omega]
   exact this
theorem qsy:∀ (l:List Tm) (d:Int) (s:Int×Int),¬ ovr s->((qbw l (2000-s.1) d).2=true↔¬ ovr (qei l d s))∧((qbw l (2000-s.1) d).2=true->(qbw l (2000-s.1) d).1=2000-(qei l d s).1)
 | [],d,s,h=>by
  rw [qbw,qei]
  exact ⟨⟨fun _=>h,fun _=>rfl⟩,fun _=>rfl⟩
 | x :: xs,d,s,h=>by
  have hx:=cntR_eq x (d+1) s h
  rw [qbw,qei,if_neg (show ¬ (s.1 > 2000∨s.2 > 200) from h)]
  by_cases hc:(qbq x (2000-s.1) (d+1)).2=true
  ·rw [if_pos hc,hx.2 hc]
   exact qsy xs d _ (hx.1.1 hc)
  ·have ho:ovr (qcn x (d+1) s):=Classical.byContradiction fun hn=>hc (hx.1.2 hn)
   rw [if_neg hc,qrd xs d _ ho]
   exact ⟨⟨fun h=>(by cases h),fun h=>absurd ho h⟩,fun h=>by cases h⟩
end
mutual
def qd8:Tm->Bool
 | .mk k n l=>!(decide (n<0) || (decide (k≠1) && decide (k≠2)) || (decide (k=1) && decide (0<l.length)) || decide (8<l.length)) && qed l
def qed:List Tm->Bool
 | []=>true
 | x :: xs=>qd8 x && qed xs
end
mutual
theorem qqo:∀ t,qbk t=true->qd8 t=true
 | .mk k n l,h=>by
  rw [qbk] at h
  simp only [Bool.and_eq_true,decide_eq_true_eq] at h
  rw [qd8,quf l h.2,Bool.and_true,Bool.not_eq_true']
  obtain ⟨⟨⟨⟨h1,h2⟩,h3⟩,h4⟩,_⟩:=h
  rw [decide_eq_false (by omega),decide_eq_false (by omega:¬ 8<l.length),show decide (k≠2)=false from decide_eq_false (by omega),show decide (k=1)=false from decide_eq_false (by omega)]
  simp
theorem quf:∀ l,qdp l=true->qed l=true
 | [],_=>by rw [qed]
 | x :: xs,h=>by
  rw [qdp,Bool.and_eq_true] at h
  rw [qed,qqo x h.1,quf xs h.2]
  rfl
end
theorem isV_ref (t:Tm):isV t=(qbk t && ((qbq t 2000 1).2 && qd8 t)):=by
 have h:=(cntR_eq t 1 (0,0) (by unfold ovr;simp)).1
 simp only [Int.sub_zero] at h
 rw [isV]
 cases hv:qbk t with
 | false=>simp
 | true =>
  rw [qqo t hv,Bool.and_true,Bool.and_true,Bool.true_and]
  by_cases ho:ovr (qcn t 1 (0,0))
  ·have h2:(qbq t 2000 1).2=false:=by
    cases hc:(qbq t 2000 1).2 with
    | false=>rfl
    | true=>exact absurd ho (h.1 hc)
   rw [h2,qhd,if_pos (show (qcn t 1 (0,0)).1 > 2000∨(qcn t 1 (0,0)).2 > 200 from ho)]
   decide
  ·have ho':¬ ((qcn t 1 (0,0)).1 > 2000∨(qcn t 1 (0,0)).2 > 200):=ho
   rw [h.2 ho,qhd,if_neg ho']
   exact decide_eq_true (by omega)
theorem qve {l:List Tm} {k:Nat} (h:k<l.length):qdp (l.take (k+1))=(qdp (l.take k) && qbk l[k]):=by
 rw [qjp,qjp,List.take_succ_eq_append_getElem h,List.any_append,List.any_cons,List.any_nil,Bool.or_false,Bool.not_or,Bool.not_not]
theorem allVs_no {l:List Tm} {k:Nat} (h:k<l.length) (hf:qbk l[k]=false):qdp l=false:=by
 rw [qjp,List.any_eq_true.2 ⟨l[k],List.getElem_mem h,by rw [hf];rfl⟩]
 rfl
theorem allV_mk (t:Tm):qbk t=(decide (t.k=2) && decide (0<=t.n) && decide (t.n<256) && decide (t.l.length<=8) && qdp t.l):=by cases t;rw [qbk];rfl
def VlC (t:Tm):Prop:=∀ (S:Nat->Prop) (cs:List Value) (W:World),RTm S W t cs->Calls Tryz.prog 283 #[.agg cs.toArray] W fun e w'=>e = .returned (.bool (qbk t))∧Ext W w'
theorem value_of (t:Tm) (ht:∀ x∈t.l,VlC x):VlC t:=by
 intro S cs w hx
 obtain ⟨_,_,v,rfl,hv⟩:=(qa0 ..).1 hx
 obtain ⟨A,c,rfl,hc,hc0⟩:=hv.val
 have HV:=Hd hv
 have HT:=Hd ht
 have hmk:=allV_mk t
 clear hv hx ht
 by_cases h1:t.k=2
 rotate_left
 ·have HA:Hid (qbk t=false):=by
   show _=_
   rw [hmk,decide_eq_false h1]
   rfl
  clear hmk
  go_enter Tryz.func283,Tryz.ntmps283
  go_wp2_with fail
  go_ret
  exact ⟨by rw [HA.out];rfl,bel⟩
 by_cases h2:t.n<0
 ·have HA:Hid (qbk t=false):=by
   show _=_
   rw [hmk,decide_eq_false (by omega:¬ 0<=t.n),Bool.and_false]
   rfl
  clear hmk
  go_enter Tryz.func283,Tryz.ntmps283
  go_wp2_with fail
  go_ret
  exact ⟨by rw [HA.out];rfl,bel⟩
 by_cases h3:255<t.n
 ·have HA:Hid (qbk t=false):=by
   show _=_
   rw [hmk,decide_eq_false (by omega:¬ t.n<256),Bool.and_false]
   rfl
  clear hmk
  go_enter Tryz.func283,Tryz.ntmps283
  go_wp2_with fail
  go_ret
  exact ⟨by rw [HA.out];rfl,bel⟩
 by_cases h4:8<t.l.length
 ·have HA:Hid (qbk t=false):=by
   show _=_
   rw [hmk,decide_eq_false (by omega:¬ t.l.length<=8),Bool.and_false]
   rfl
  clear hmk
  go_enter Tryz.func283,Tryz.ntmps283
  go_wp2_with fail
  go_ret
  exact ⟨by rw [HA.out];rfl,bel⟩
 have HA:Hid (qbk t=qdp t.l):=by
  show _=_
  rw [hmk,decide_eq_true h1,decide_eq_true (by omega:0<=t.n),decide_eq_true (by omega:t.n<256),decide_eq_true (by omega:t.l.length<=8)]
  rfl
 have hkb:(t.k != 2)=false:=by rw [h1];rfl
 clear h1
 obtain ⟨W0,hW0⟩:∃ W0,w.alloc (.cells #[.int .i64 t.k,.int .i64 t.n,.slice A t.l.length c] 159)=W0:=⟨_,rfl⟩
 have hE0:Ext w W0:=by rw [<- hW0];exact (Ext.refl w).alloc _
 have hB0:qag W0 w.heap.size 159 [.int .i64 t.k,.int .i64 t.n,.slice A t.l.length c]:=by rw [<- hW0];exact qag.new w 159 _
 have HB0:=Hd hB0
 have HE0:=Hd hE0
 have HW0:=Hd hW0
 clear hmk hE0 hB0 hW0
 go_enter Tryz.func283,Tryz.ntmps283
 go_wp2_with fail
 rw [HW0.out]
 obtain ⟨p0,hp0⟩:∃ p0,w.heap.size=p0:=⟨_,rfl⟩
 rw [hp0] at HB0
 rw [hp0]
 clear hp0 HW0
 go_loopw [3] (fun vi wr=>∃ k:Nat,k<=t.l.length∧vi = .int .i64 k∧Ext W0 wr∧Hid (qdp (t.l.take k)=true)) (fun vi _=>t.l.length-(intOf vi).toNat)
 case atStart=>exact ⟨0,Nat.zero_le _,rfl,Ext.refl _,(show qdp []=true by rw [qdp])⟩
 case round =>
  obtain ⟨k,hk,rfl,hE,hal⟩:=hrel
  have hbx:=HB0.out.ext hE
  have x2:=hbx.cell 2 _
  have xz:=hbx.lt
  clear hbx
  by_cases hlt:k<t.l.length
  ·obtain ⟨b,off,cs,rfl,hb,hS,hl,hr,hcell⟩:=(qak.good.bel HV.out (HE0.out.trans' hE)).get k hlt
   obtain ⟨_,_,v3,rfl,hv3⟩:=(qa0 ..).1 hr
   have a0:=hcell.get 0 _
   have a1:=hcell.get 1 _
   have a2:=hcell.get 2 _
   simp only [Nat.add_zero] at a0
   obtain ⟨A3,c3,rfl,_,_⟩:=hv3.val
   have hca:=HT.out _ (List.getElem_mem hlt) S _ wr hr
   have HTK:=Hd (qve hlt)
   have HNO:=Hd (allVs_no hlt)
   obtain ⟨bb,hbb⟩:∃ bb,qbk t.l[k]=bb:=⟨_,rfl⟩
   rw [hbb] at hca HTK HNO
   obtain ⟨q1,hq1⟩:∃ q1,t.l[k].k=q1:=⟨_,rfl⟩
   obtain ⟨q2,hq2⟩:∃ q2,t.l[k].n=q2:=⟨_,rfl⟩
   obtain ⟨q3,hq3⟩:∃ q3,t.l[k].l.length=q3:=⟨_,rfl⟩
   rw [hq1,hq2,hq3] at hca
   rw [hq1] at a0
   rw [hq2] at a1
   rw [hq3] at a2
   have hk1:k+1<=t.l.length:=hlt
   clear hcell hl hS hr hv3 hbb hq1 hq2 hq3
   go_wp2_with fail
   refine hca.mono ?_
   rintro e w1 ⟨rfl,h1⟩
   cases bb
   ·go_wp2_with fail
    go_ret
    exact ⟨by rw [HA.out,HNO.out (by trivial)];rfl,HE0.out.trans' (hE.trans' h1)⟩
   ·go_wp2_with fail
    go_roundw
    case rel=>exact ⟨k+1,hk1,by go_num,hE.trans' h1,(by rw [HTK.out,hal.out];rfl:qdp (t.l.take (k+1))=true)⟩
    case measure=>simp [intOf];omega
  ·have HAL:Hid (qbk t=true):=by
    show _=_
    have:=hal.out
    rw [List.take_of_length_le (by omega)] at this
    rw [HA.out,this]
   go_wp2_with fail
   go_ret
   exact ⟨by rw [HAL.out];rfl,HE0.out.trans' hE⟩
theorem value17_c:∀ t,VlC t:=Tm.ind value_of
theorem ql8:∀ l:List Tm,qed l = !(l.any fun x=>!qd8 x)
 | []=>by rw [qed];rfl
 | x :: xs=>by rw [qed,List.any_cons,ql8 xs];simp
theorem qv6 {l:List Tm} {k:Nat} (h:k<l.length):qed (l.take (k+1))=(qed (l.take k) && qd8 l[k]):=by
 rw [ql8,ql8,List.take_succ_eq_append_getElem h,List.any_append,List.any_cons,List.any_nil,Bool.or_false,Bool.not_or,Bool.not_not]
theorem quu {l:List Tm} {k:Nat} (h:k<l.length) (hf:qd8 l[k]=false):qed l=false:=by
 rw [ql8,List.any_eq_true.2 ⟨l[k],List.getElem_mem h,by rw [hf];rfl⟩]
 rfl
theorem nodesB_mk (t:Tm):qd8 t=(!(decide (t.n<0) || (decide (t.k≠1) && decide (t.k≠2)) || (decide (t.k=1) && decide (0<t.l.length)) || decide (8<t.l.length)) && qed t.l):=by cases t;rw [qd8];rfl
def NdC (t:Tm):Prop:=∀ (S:Nat->Prop) (cs:List Value) (W:World),RTm S W t cs->Calls Tryz.prog 326 #[.agg cs.toArray] W fun e w'=>e = .returned (.bool (qd8 t))∧Ext W w'
theorem nodes_of (t:Tm) (ht:∀ x∈t.l,NdC x):NdC t:=by
 intro S cs w hx
 obtain ⟨_,_,v,rfl,hv⟩:=(qa0 ..).1 hx
 obtain ⟨A,c,rfl,hc,hc0⟩:=hv.val
 have HV:=Hd hv
 have HT:=Hd ht
 have hmk:=nodesB_mk t
 clear hv hx ht
 by_cases hbad:(decide (t.n<0) || (decide (t.k≠1) && decide (t.k≠2)) || (decide (t.k=1) && decide (0<t.l.length)) || decide (8<t.l.length))=true
 ·have HA:Hid (qd8 t=false):=by
   show _=_
   rw [hmk,hbad]
   rfl
  clear hmk
  simp only [Bool.or_eq_true,Bool.and_eq_true,decide_eq_true_eq] at hbad
  by_cases g1:t.n<0
  ·clear hbad
   go_enter Tryz.func326,Tryz.ntmps326
   go_wp2_with fail
   go_ret
   exact ⟨by rw [HA.out];rfl,bel⟩
  by_cases g2:t.k=1
  ·by_cases g3:0<t.l.length
   ·clear hbad
    go_enter Tryz.func326,Tryz.ntmps326
    go_wp2_with fail
    go_ret
    exact ⟨by rw [HA.out];rfl,bel⟩
   ·exfalso
    omega
  ·by_cases g3:t.k=2
   ·have g4:8<t.l.length:=by omega
    clear hbad
    go_enter Tryz.func326,Tryz.ntmps326
    go_wp2_with fail
    go_ret
    exact ⟨by rw [HA.out];rfl,bel⟩
   ·clear hbad
    go_enter Tryz.func326,Tryz.ntmps326
    go_wp2_with fail
    go_ret
    exact ⟨by rw [HA.out];rfl,bel⟩
 have hbad':=eq_false_of_ne_true hbad
 have HA:Hid (qd8 t=qed t.l):=by
  show _=_
  rw [hmk,hbad']
  rfl
 simp only [Bool.or_eq_true,Bool.and_eq_true,decide_eq_true_eq,not_or,not_and] at hbad
 obtain ⟨⟨⟨g1,g2⟩,g3⟩,g4⟩:=hbad
 have hk12:t.k=1∨t.k=2:=by omega
 obtain ⟨q,hq⟩:∃ q,t.k=q:=⟨_,rfl⟩
 obtain ⟨m,hm⟩:∃ m,t.n=m:=⟨_,rfl⟩
 rw [hq] at hk12 g3
 rw [hm] at g1
 rw [hq,hm]
 clear hmk hbad' g2 hq hm
 obtain ⟨W0,hW0⟩:∃ W0,w.alloc (.cells #[.int .i64 q,.int .i64 m,.slice A t.l.length c] 159)=W0:=⟨_,rfl⟩
 have hE0:Ext w W0:=by rw [<- hW0];exact (Ext.refl w).alloc _
 have hB0:qag W0 w.heap.size 159 [.int .i64 q,.int .i64 m,.slice A t.l.length c]:=by rw [<- hW0];exact qag.new w 159 _
 have HB0:=Hd hB0
 have HE0:=Hd hE0
 obtain ⟨p0,hp0⟩:∃ p0,w.heap.size=p0:=⟨_,rfl⟩
 rw [hp0] at HB0
 have HP0:=Hd hp0
 have HW0:=Hd hW0
 clear hE0 hB0 hp0 hW0
 rcases hk12 with rfl | rfl
 all_goals
  try have g5:¬ 0<t.l.length:=g3 (by trivial)
  try clear g3
  go_enter Tryz.func326,Tryz.ntmps326
  go_wp2_with fail
  rw [HW0.out,HP0.out]
  go_loopw [3] (fun vi wr=>∃ k:Nat,k<=t.l.length∧vi = .int .i64 k∧Ext W0 wr∧Hid (qed (t.l.take k)=true)) (fun vi _=>t.l.length-(intOf vi).toNat)
  case atStart=>exact ⟨0,Nat.zero_le _,rfl,Ext.refl _,(show qed []=true by rw [qed])⟩
  case round =>
   obtain ⟨k,hk,rfl,hE,hal⟩:=hrel
   have hbx:=HB0.out.ext hE
   have x2:=hbx.cell 2 _
   have xz:=hbx.lt
   clear hbx
   by_cases hlt:k<t.l.length
   ·first
    | (exfalso;exact g5 (by omega))
    | (
     obtain ⟨b,off,cs,rfl,hb,hS,hl,hr,hcell⟩:=(qak.good.bel HV.out (HE0.out.trans' hE)).get k hlt
     obtain ⟨_,_,v3,rfl,hv3⟩:=(qa0 ..).1 hr
     have a0:=hcell.get 0 _
     have a1:=hcell.get 1 _
     have a2:=hcell.get 2 _
     simp only [Nat.add_zero] at a0
     obtain ⟨A3,c3,rfl,_,_⟩:=hv3.val
     have hca:=HT.out _ (List.getElem_mem hlt) S _ wr hr
     have HTK:=Hd (qv6 hlt)
     have HNO:=Hd (quu hlt)
     obtain ⟨bb,hbb⟩:∃ bb,qd8 t.l[k]=bb:=⟨_,rfl⟩
     rw [hbb] at hca HTK HNO
     obtain ⟨q1,hq1⟩:∃ q1,t.l[k].k=q1:=⟨_,rfl⟩
     obtain ⟨q2,hq2⟩:∃ q2,t.l[k].n=q2:=⟨_,rfl⟩
     obtain ⟨q3,hq3⟩:∃ q3,t.l[k].l.length=q3:=⟨_,rfl⟩
     rw [hq1,hq2,hq3] at hca
     rw [hq1] at a0
     rw [hq2] at a1
     rw [hq3] at a2
     have hk1:k+1<=t.l.length:=hlt
     clear hcell hl hS hr hv3 hbb hq1 hq2 hq3
     go_wp2_with fail
     refine hca.mono ?_
     rintro e w1 ⟨rfl,h1⟩
     cases bb
     ·go_wp2_with fail
      go_ret
      exact ⟨by rw [HA.out,HNO.out (by trivial)];rfl,HE0.out.trans' (hE.trans' h1)⟩
     ·go_wp2_with fail
      go_roundw
      case rel=>exact ⟨k+1,hk1,by go_num,hE.trans' h1,(by rw [HTK.out,hal.out];rfl:qed (t.l.take (k+1))=true)⟩
      case measure=>simp [intOf];omega)
   ·have HAL:Hid (qd8 t=true):=by
     show _=_
     have:=hal.out
     rw [List.take_of_length_le (by omega)] at this
     rw [HA.out,this]
    go_wp2_with fail
    go_ret
    exact ⟨by rw [HAL.out];rfl,HE0.out.trans' hE⟩
theorem nodes_c:∀ t,NdC t:=Tm.ind nodes_of
end
section
set_option maxHeartbeats 1000000
set_option maxRecDepth 100000
/- The reference's values and labels: counted,Is,Tree,Value,IsLabel,Visible,right,Trace: walked. -/
mutual
theorem cntR_le:∀ (t:Tm) (left d:Int),0<=left -> -1<=(qbq t left d).1∧(qbq t left d).1<=left∧((qbq t left d).2=true->0<=(qbq t left d).1)
 | .mk _ _ l,left,d,h=>by
  rw [qbq]
  by_cases hc:left-1<0∨200<d
  ·rw [if_pos hc]
   exact ⟨by show -1<=left-1;omega,by show left-1<=left;omega,fun h=>by cases h⟩
  ·rw [if_neg hc]
   have:=qqe l (left-1) d (by omega)
   exact ⟨this.1,by omega,this.2.2⟩
theorem qqe:∀ (l:List Tm) (left d:Int),0<=left -> -1<=(qbw l left d).1∧(qbw l left d).1<=left∧((qbw l left d).2=true->0<=(qbw l left d).1)
 | [],left,d,h=>by rw [qbw];exact ⟨by show -1<=left;omega,Int.le_refl _,fun _=>h⟩
 | x :: xs,left,d,h=>by
  have hx:=cntR_le x left (d+1) h
  rw [qbw]
  by_cases hc:(qbq x left (d+1)).2=true
  ·rw [if_pos hc]
   have:=qqe xs _ d (hx.2.2 hc)
   exact ⟨this.1,by omega,this.2.2⟩
  ·rw [if_neg hc]
   exact ⟨hx.1,hx.2.1,fun h=>by cases h⟩
end
theorem cntR_mk (t:Tm) (left d:Int):qbq t left d=if left-1<0∨200<d then (left-1,false) else qbw t.l (left-1) d:=by cases t;rw [qbq];rfl
theorem qol:∀ (xs ys:List Tm) (left d lk:Int),qbw xs left d=(lk,true)->qbw (xs++ys) left d=qbw ys lk d
 | [],ys,left,d,lk,h=>by
  rw [qbw] at h
  injection h with h _
  rw [List.nil_append,h]
 | x :: xs,ys,left,d,lk,h=>by
  rw [qbw] at h
  rw [List.cons_append,qbw]
  by_cases hc:(qbq x left (d+1)).2=true
  ·rw [if_pos hc] at h ⊢
   exact qol xs ys _ d lk h
  ·rw [if_neg hc] at h
   injection h with _ h
   cases h
theorem qup {l:List Tm} {k:Nat} (h:k<l.length) {left d lk a:Int} (h1:qbw (l.take k) left d=(lk,true)) (h2:qbq l[k] lk (d+1)=(a,true)):qbw (l.take (k+1)) left d=(a,true):=by
 rw [List.take_succ_eq_append_getElem h,qol _ _ _ _ _ h1,qbw,h2,if_pos rfl,qbw]
theorem cntRs_no {l:List Tm} {k:Nat} (h:k<l.length) {left d lk a:Int} (h1:qbw (l.take k) left d=(lk,true)) (h2:qbq l[k] lk (d+1)=(a,false)):qbw l left d=(a,false):=by
 have:l=l.take k++(l[k] :: l.drop (k+1)):=by rw [List.getElem_cons_drop,List.take_append_drop]
 rw [this,qol _ _ _ _ _ h1,qbw]
 have h2':qbq l[k] lk (d+1)=(a,false):=h2
 rw [h2',if_neg (by simp)]
def CtC (t:Tm):Prop:=∀ (S:Nat->Prop) (cs:List Value) (W:World) (left deep:Int),RTm S W t cs->0<=left->left<=1000000->0<=deep->deep<=1000000 ->
 Calls Tryz.prog 325 #[.agg cs.toArray,.int .i64 left,.int .i64 deep] W fun e w'=>e = .returned (.tuple #[.int .i64 (qbq t left deep).1,.bool (qbq t left deep).2])∧Ext W w'
theorem qv2 (t:Tm) (ht:∀ x∈t.l,CtC x):CtC t:=by
 intro S cs w left deep hx hl0 hl1 hd0 hd1
 obtain ⟨_,_,v,rfl,hv⟩:=(qa0 ..).1 hx
 obtain ⟨A,c,rfl,hc,hc0⟩:=hv.val
 have HV:=Hd hv
 have HT:=Hd ht
 have hmk:=cntR_mk t left deep
 obtain ⟨q,hq⟩:∃ q,t.k=q:=⟨_,rfl⟩
 obtain ⟨m,hm⟩:∃ m,t.n=m:=⟨_,rfl⟩
 rw [hq,hm]
 clear hv hx ht hq hm
 by_cases h1:left-1<0
 ·have HA:Hid (qbq t left deep=(left-1,false)):=by
   show _=_
   rw [hmk,if_pos (.inl h1)]
  clear hmk
  go_enter Tryz.func325,Tryz.ntmps325
  go_wp2_with fail
  go_ret2
  exact ⟨by rw [HA.out];rfl,bel⟩
 by_cases h2:200<deep
 ·have HA:Hid (qbq t left deep=(left-1,false)):=by
   show _=_
   rw [hmk,if_pos (.inr h2)]
  clear hmk
  go_enter Tryz.func325,Tryz.ntmps325
  go_wp2_with fail
  go_ret2
  exact ⟨by rw [HA.out];rfl,bel⟩
 have HA:Hid (qbq t left deep=qbw t.l (left-1) deep):=by
  show _=_
  rw [hmk,if_neg (by omega)]
 obtain ⟨W0,hW0⟩:∃ W0,w.alloc (.cells #[.int .i64 q,.int .i64 m,.slice A t.l.length c] 159)=W0:=⟨_,rfl⟩
 have hE0:Ext w W0:=by rw [<- hW0];exact (Ext.refl w).alloc _
 have hB0:qag W0 w.heap.size 159 [.int .i64 q,.int .i64 m,.slice A t.l.length c]:=by rw [<- hW0];exact qag.new w 159 _
 have HB0:=Hd hB0
 have HE0:=Hd hE0
 obtain ⟨p0,hp0⟩:∃ p0,w.heap.size=p0:=⟨_,rfl⟩
 rw [hp0] at HB0
 have HP0:=Hd hp0
 have HW0:=Hd hW0
 clear hmk hE0 hB0 hp0 hW0
 go_enter Tryz.func325,Tryz.ntmps325
 go_wp2_with fail
 rw [HW0.out,HP0.out]
 go_loopw [1,8] (fun vl vi wr=>∃ (k:Nat) (lk:Int),k<=t.l.length∧vi = .int .i64 k∧vl = .int .i64 lk∧0<=lk∧lk<=left∧Ext W0 wr∧Hid (qbw (t.l.take k) (left-1) deep=(lk,true))) (fun _ vi _=>t.l.length-(intOf vi).toNat)
 case atStart=>exact ⟨0,left-1,Nat.zero_le _,rfl,rfl,by omega,by omega,Ext.refl _,(show qbw [] (left-1) deep=(left-1,true) by rw [qbw])⟩
 case round =>
  obtain ⟨k,lk,hk,rfl,rfl,hlk0,hlk1,hE,hal⟩:=hrel
  have hbx:=HB0.out.ext hE
  have x2:=hbx.cell 2 _
  have xz:=hbx.lt
  clear hbx
  by_cases hlt:k<t.l.length
  ·obtain ⟨b,off,cs,rfl,hb,hS,hl,hr,hcell⟩:=(qak.good.bel HV.out (HE0.out.trans' hE)).get k hlt
   obtain ⟨_,_,v3,rfl,hv3⟩:=(qa0 ..).1 hr
   have a0:=hcell.get 0 _
   have a1:=hcell.get 1 _
   have a2:=hcell.get 2 _
   simp only [Nat.add_zero] at a0
   obtain ⟨A3,c3,rfl,_,_⟩:=hv3.val
   have hca:=HT.out _ (List.getElem_mem hlt) S _ wr lk (deep+1) hr hlk0 (by omega) (by omega) (by omega)
   have hle:=cntR_le t.l[k] lk (deep+1) hlk0
   have HTK:∀ a,qbq t.l[k] lk (deep+1)=(a,true)->Hid (qbw (t.l.take (k+1)) (left-1) deep=(a,true)):=fun a h=>qup hlt hal.out h
   have HNO:∀ a,qbq t.l[k] lk (deep+1)=(a,false)->Hid (qbq t left deep=(a,false)):=fun a h=>by
    show _=_
    rw [HA.out,cntRs_no hlt hal.out h]
   obtain ⟨⟨la,bb⟩,hbb⟩:∃ p:Int×Bool,qbq t.l[k] lk (deep+1)=p:=⟨_,rfl⟩
   rw [hbb] at hca hle HTK HNO
   simp only at hca hle
   obtain ⟨q1,hq1⟩:∃ q1,t.l[k].k=q1:=⟨_,rfl⟩
   obtain ⟨q2,hq2⟩:∃ q2,t.l[k].n=q2:=⟨_,rfl⟩
   obtain ⟨q3,hq3⟩:∃ q3,t.l[k].l.length=q3:=⟨_,rfl⟩
   rw [hq1,hq2,hq3] at hca
   rw [hq1] at a0
   rw [hq2] at a1
   rw [hq3] at a2
   have hk1:k+1<=t.l.length:=hlt
   obtain ⟨hle1,hle2,hle3⟩:=hle
   cases bb
   ·have HN:=HNO la rfl
    clear hcell hl hS hr hv3 hbb hq1 hq2 hq3 HTK HNO hle3
    go_wp2_with fail
    refine hca.mono ?_
    rintro e w1 ⟨rfl,h1⟩
    go_wp2_with fail
    go_ret2
    exact ⟨by rw [HN.out];rfl,HE0.out.trans' (hE.trans' h1)⟩
   ·have HN:=HTK la rfl
    replace hle3:=hle3 rfl
    clear hcell hl hS hr hv3 hbb hq1 hq2 hq3 HTK HNO
    go_wp2_with fail
    refine hca.mono ?_
    rintro e w1 ⟨rfl,h1⟩
    go_wp2_with fail
    go_roundw
    case rel=>exact ⟨k+1,la,hk1,by go_num,rfl,hle3,by omega,hE.trans' h1,HN⟩
    case measure=>simp [intOf];omega
  ·have HAL:Hid (qbq t left deep=(lk,true)):=by
    show _=_
    have:=hal.out
    rw [List.take_of_length_le (by omega)] at this
    rw [HA.out,this]
   go_wp2_with fail
   go_ret2
   exact ⟨by rw [HAL.out];rfl,HE0.out.trans' hE⟩
theorem counted_c:∀ t,CtC t:=Tm.ind qv2
def qg1 (t:Tm):Bool:=(qbq t 2000 1).2 && qd8 t
theorem Is_c (S:Nat->Prop) (t:Tm) (cs:List Value) (w:World) (hx:RTm S w t cs) :
  Calls Tryz.prog 316 #[.agg cs.toArray] w fun e w'=>e = .returned (.bool (qg1 t))∧Ext w w':=by
 have hc1:=fun W h=>counted_c t S cs W 2000 1 h (by omega) (by omega) (by omega) (by omega)
 have hc2:=fun W h=>nodes_c t S cs W h
 obtain ⟨_,_,v,rfl,hv⟩:=(qa0 ..).1 hx
 obtain ⟨A,c,rfl,hc,hc0⟩:=hv.val
 have HX:=Hd hx
 clear hx hv
 have hmk:qg1 t=((qbq t 2000 1).2 && qd8 t):=rfl
 obtain ⟨⟨la,bb⟩,hbb⟩:∃ p:Int×Bool,qbq t 2000 1=p:=⟨_,rfl⟩
 rw [hbb] at hc1 hmk
 cases bb
 ·have HA:Hid (qg1 t=false):=hmk
  clear hmk hbb hc2
  go_enter Tryz.func316,Tryz.ntmps316
  go_wp2_with fail
  refine (hc1 _ (RTm.good.bel HX.out bel)).mono ?_
  rintro e w1 ⟨rfl,h1⟩
  go_wp2_with fail
  go_ret
  exact ⟨by rw [HA.out];rfl,bel⟩
 ·have HA:Hid (qg1 t=qd8 t):=hmk
  clear hmk hbb
  go_enter Tryz.func316,Tryz.ntmps316
  go_wp2_with fail
  refine (hc1 _ (RTm.good.bel HX.out bel)).mono ?_
  rintro e w1 ⟨rfl,h1⟩
  have hcl:=h1.cells
  go_wp2_with fail
  refine (hc2 _ (RTm.good.bel HX.out bel)).mono ?_
  rintro e w2 ⟨rfl,h2⟩
  go_wp2_with fail
  go_ret
  exact ⟨by rw [HA.out];rfl,bel⟩
def treeE (t:Tm):Int:=if qg1 t then 0 else 4
theorem Tree_c (S:Nat->Prop) (t:Tm) (cs:List Value) (w:World) (hx:RTm S w t cs) :
  Calls Tryz.prog 284 #[.agg cs.toArray] w fun e w'=>e = .returned (.int .i64 (treeE t))∧Ext w w':=by
 have hc1:=fun W h=>Is_c S t cs W h
 obtain ⟨_,_,v,rfl,hv⟩:=(qa0 ..).1 hx
 obtain ⟨A,c,rfl,hc,hc0⟩:=hv.val
 have HX:=Hd hx
 clear hx hv
 cases hb:qg1 t
 all_goals
  have HA:=Hd (show treeE t=_ from by rw [treeE,hb])
  rw [hb] at hc1
  simp only [if_true,Bool.false_eq_true,if_false] at HA
  clear hb
  go_enter Tryz.func284,Tryz.ntmps284
  go_wp2_with fail
  refine (hc1 _ (RTm.good.bel HX.out bel)).mono ?_
  rintro e w1 ⟨rfl,h1⟩
  go_wp2_with fail
  go_ret
  exact ⟨by rw [HA.out];rfl,bel⟩
theorem Value17_c (S:Nat->Prop) (t:Tm) (cs:List Value) (w:World) (hx:RTm S w t cs) :
  Calls Tryz.prog 262 #[.agg cs.toArray] w fun e w'=>e = .returned (.bool (isV t))∧Ext w w':=by
 have hc1:=fun W h=>value17_c t S cs W h
 have hc2:=fun W h=>Tree_c S t cs W h
 obtain ⟨_,_,v,rfl,hv⟩:=(qa0 ..).1 hx
 obtain ⟨A,c,rfl,hc,hc0⟩:=hv.val
 have HX:=Hd hx
 clear hx hv
 have hmk:isV t=(qbk t && qg1 t):=isV_ref t
 cases hb:qbk t
 ·have HA:Hid (isV t=false):=by
   show _=_
   rw [hmk,hb]
   rfl
  rw [hb] at hc1
  clear hmk hb hc2
  go_enter Tryz.func262,Tryz.ntmps262
  go_wp2_with fail
  refine (hc1 _ (RTm.good.bel HX.out bel)).mono ?_
  rintro e w1 ⟨rfl,h1⟩
  go_wp2_with fail
  go_ret
  exact ⟨by rw [HA.out];rfl,bel⟩
 ·rw [hb,Bool.true_and] at hmk
  cases hi:qg1 t
  all_goals
   rw [hi] at hmk
   have hte:treeE t=if qg1 t then 0 else 4:=rfl
   rw [hi] at hte
   simp only [if_true,Bool.false_eq_true,if_false] at hte
   have HA:=Hd hmk
   rw [hb] at hc1
   rw [hte] at hc2
   clear hmk hb hi hte
   go_enter Tryz.func262,Tryz.ntmps262
   go_wp2_with fail
   refine (hc1 _ (RTm.good.bel HX.out bel)).mono ?_
   rintro e w1 ⟨rfl,h1⟩
   have hcl:=h1.cells
   go_wp2_with fail
   refine (hc2 _ (RTm.good.bel HX.out bel)).mono ?_
   rintro e w2 ⟨rfl,h2⟩
   go_wp2_with fail
   go_ret
   exact ⟨by rw [HA.out];rfl,bel⟩
theorem anyV_take {l:List Tm} {k:Nat} (h:k<l.length):((l.take (k+1)).all isV)=((l.take k).all isV && isV l[k]):=by
 rw [List.take_succ_eq_append_getElem h,List.all_append,List.all_cons,List.all_nil,Bool.and_true]
theorem anyV_no {l:List Tm} {k:Nat} (h:k<l.length) (hf:isV l[k]=false):(l.all isV)=false:=by
 rw [List.all_eq_false]
 exact ⟨l[k],List.getElem_mem h,by rw [hf];simp⟩
theorem okLb_all (x:Lb):qaz x=(!(decide (x.g < -3) || decide (32<=x.g) || decide (8<x.v.length) || ((decide (x.g = -3) || decide (x.g = -1)) && decide (0<x.v.length))) && x.v.all isV):=by
 rw [qaz,Bool.not_or,any_not]
theorem qrx (S:Nat->Prop) (x:Lb) (cs:List Value) (w:World) (hx:RLb S w x cs) :
  Calls Tryz.prog 222 #[.agg cs.toArray] w fun e w'=>e = .returned (.bool (qaz x))∧Ext w w':=by
 obtain ⟨_,v,rfl,hv⟩:=id hx
 obtain ⟨A,c,rfl,hc,hc0⟩:=hv.val
 have HV:=Hd hv
 have hmk:=okLb_all x
 obtain ⟨q,hq⟩:∃ q,x.g=q:=⟨_,rfl⟩
 rw [hq] at hmk
 rw [hq]
 clear hx hv hq
 by_cases g1:q < -3
 ·have HA:Hid (qaz x=false):=by show _=_;rw [hmk,decide_eq_true g1];rfl
  clear hmk
  go_enter Tryz.func222,Tryz.ntmps222
  go_wp2_with fail
  go_ret
  exact ⟨by rw [HA.out];rfl,bel⟩
 by_cases g2:31<q
 ·have HA:Hid (qaz x=false):=by show _=_;rw [hmk,decide_eq_false g1,decide_eq_true (show 32<=q by omega)];rfl
  clear hmk
  go_enter Tryz.func222,Tryz.ntmps222
  go_wp2_with fail
  go_ret
  exact ⟨by rw [HA.out];rfl,bel⟩
 by_cases g3:8<x.v.length
 ·have HA:Hid (qaz x=false):=by show _=_;rw [hmk,decide_eq_false g1,decide_eq_false (show ¬ 32<=q by omega),decide_eq_true g3];rfl
  clear hmk
  go_enter Tryz.func222,Tryz.ntmps222
  go_wp2_with fail
  go_ret
  exact ⟨by rw [HA.out];rfl,bel⟩
 rw [decide_eq_false g1,decide_eq_false (show ¬ 32<=q by omega),decide_eq_false g3,Bool.false_or,Bool.false_or,Bool.false_or] at hmk
 by_cases g4:(q = -3∨q = -1)∧0<x.v.length
 ·have HA:Hid (qaz x=false):=by
   show _=_
   rw [hmk,decide_eq_true g4.2,Bool.and_true]
   rcases g4.1 with h | h <;> rw [h] <;> rfl
  clear hmk
  obtain ⟨g4,g5⟩:=g4
  rcases g4 with rfl | rfl
  all_goals
   go_enter Tryz.func222,Tryz.ntmps222
   go_wp2_with fail
   go_ret
   exact ⟨by rw [HA.out];rfl,bel⟩
 have HA:Hid (qaz x=x.v.all isV):=by
  show _=_
  have:((decide (q = -3) || decide (q = -1)) && decide (0<x.v.length))=false:=by
   rw [Bool.and_eq_false_iff,Bool.or_eq_false_iff,decide_eq_false_iff_not,decide_eq_false_iff_not,decide_eq_false_iff_not]
   by_cases h:0<x.v.length
   ·left
    exact ⟨fun h1=>g4 ⟨.inl h1,h⟩,fun h1=>g4 ⟨.inr h1,h⟩⟩
   ·exact .inr h
  rw [hmk,this]
  rfl
 clear hmk
 obtain ⟨W0,hW0⟩:∃ W0,w.alloc (.cells #[.int .i64 q,.slice A x.v.length c] 61)=W0:=⟨_,rfl⟩
 have hE0:Ext w W0:=by rw [<- hW0];exact (Ext.refl w).alloc _
 have hB0:qag W0 w.heap.size 61 [.int .i64 q,.slice A x.v.length c]:=by rw [<- hW0];exact qag.new w 61 _
 have HB0:=Hd hB0
 have HE0:=Hd hE0
 obtain ⟨p0,hp0⟩:∃ p0,w.heap.size=p0:=⟨_,rfl⟩
 rw [hp0] at HB0
 have HP0:=Hd hp0
 have HW0:=Hd hW0
 clear hE0 hB0 hp0 hW0
 have g6:(¬ (q = -3)∧¬ (q = -1))∨((q = -3∨q = -1)∧¬ 0<x.v.length):=by omega
 clear g4
 have HAT:Hid (([]:List Tm).all isV=true):=rfl
 have HRD:∀ wr,Ext W0 wr->qak S wr x.v [.slice A x.v.length c]:=fun wr h=>qak.good.bel HV.out (HE0.out.trans' h)
 have HCV:=fun (t:Tm) (cs:List Value) (wr:World) (h:RTm S wr t cs)=>Value17_c S t cs wr h
 rcases g6 with ⟨g6,g7⟩ | ⟨g6,g7⟩
 rotate_left
 ·rcases g6 with rfl | rfl
  all_goals
   go_enter Tryz.func222,Tryz.ntmps222
   go_wp2_with fail
   rw [HW0.out,HP0.out]
   go_loopw [3] (fun vi wr=>vi = .int .i64 0∧Ext W0 wr) (fun vi _=>0)
   case atStart=>exact ⟨rfl,Ext.refl _⟩
   case round =>
    obtain ⟨rfl,hE⟩:=hrel
    have hbx:=HB0.out.ext hE
    have x1:=hbx.cell 1 _
    have xz:=hbx.lt
    clear hbx
    have HAL:Hid (qaz x=true):=by
     show _=_
     rw [HA.out,List.eq_nil_of_length_eq_zero (show x.v.length=0 by omega)]
     rfl
    go_wp2_with fail
    go_ret
    exact ⟨by rw [HAL.out];rfl,HE0.out.trans' hE⟩
 go_enter Tryz.func222,Tryz.ntmps222
 go_wp2_with fail
 rw [HW0.out,HP0.out]
 go_loopw [3] (fun vi wr=>∃ k:Nat,k<=x.v.length∧vi = .int .i64 k∧Ext W0 wr∧Hid ((x.v.take k).all isV=true)) (fun vi _=>x.v.length-(intOf vi).toNat)
 case atStart=>exact ⟨0,Nat.zero_le _,rfl,Ext.refl _,HAT⟩
 case round =>
  obtain ⟨k,hk,rfl,hE,hal⟩:=hrel
  have hbx:=HB0.out.ext hE
  have x1:=hbx.cell 1 _
  have xz:=hbx.lt
  clear hbx
  by_cases hlt:k<x.v.length
  ·obtain ⟨b,off,cs,rfl,hb,hS,hl,hr,hcell⟩:=(HRD wr hE).get k hlt
   obtain ⟨_,_,v3,rfl,hv3⟩:=(qa0 ..).1 hr
   have a0:=hcell.get 0 _
   have a1:=hcell.get 1 _
   have a2:=hcell.get 2 _
   simp only [Nat.add_zero] at a0
   obtain ⟨A3,c3,rfl,_,_⟩:=hv3.val
   have hca:=HCV _ _ wr hr
   have HTK:=Hd (anyV_take hlt)
   have HNO:=Hd (anyV_no hlt)
   obtain ⟨bb,hbb⟩:∃ bb,isV x.v[k]=bb:=⟨_,rfl⟩
   rw [hbb] at hca HTK HNO
   obtain ⟨q1,hq1⟩:∃ q1,x.v[k].k=q1:=⟨_,rfl⟩
   obtain ⟨q2,hq2⟩:∃ q2,x.v[k].n=q2:=⟨_,rfl⟩
   obtain ⟨q3,hq3⟩:∃ q3,x.v[k].l.length=q3:=⟨_,rfl⟩
   rw [hq1,hq2,hq3] at hca
   rw [hq1] at a0
   rw [hq2] at a1
   rw [hq3] at a2
   have hk1:k+1<=x.v.length:=hlt
   clear hcell hl hS hr hv3 hbb hq1 hq2 hq3
   go_wp2_with fail
   refine hca.mono ?_
   rintro e w1 ⟨rfl,h1⟩
   cases bb
   ·go_wp2_with fail
    go_ret
    exact ⟨by rw [HA.out,HNO.out (by trivial)];rfl,HE0.out.trans' (hE.trans' h1)⟩
   ·go_wp2_with fail
    go_roundw
    case rel=>exact ⟨k+1,hk1,by go_num,hE.trans' h1,(by rw [HTK.out,hal.out];rfl:(x.v.take (k+1)).all isV=true)⟩
    case measure=>simp [intOf];omega
  ·have HAL:Hid (qaz x=true):=by
    show _=_
    have:=hal.out
    rw [List.take_of_length_le (by omega)] at this
    rw [HA.out,this]
   go_wp2_with fail
   go_ret
   exact ⟨by rw [HAL.out];rfl,HE0.out.trans' hE⟩
theorem qnm (g:Int) (v:Value) (w:World) :
  Calls Tryz.prog 90 #[.agg #[.int .i64 g,v]] w fun e w'=>e = .returned (.bool (qa3 g))∧Ext w w':=by
 by_cases h:0<=g
 ·have HV:=Hd (show qa3 g=true from by simp [qa3,h])
  go_enter Tryz.func90,Tryz.ntmps90
  go_wp2_with fail
  go_ret
  exact ⟨by rw [HV.out];rfl,bel⟩
 ·have HV:=Hd (show qa3 g=(g == -2) from by unfold qa3;rw [decide_eq_false h,Bool.false_or];rfl)
  go_enter Tryz.func90,Tryz.ntmps90
  go_wp2_with fail
  go_ret
  exact ⟨by rw [HV.out];simp,bel⟩
theorem okV_take {l:List Lb} {k:Nat} (h:k<l.length):((l.take (k+1)).all okV)=((l.take k).all okV && okV l[k]):=by
 rw [List.take_succ_eq_append_getElem h,List.all_append,List.all_cons,List.all_nil,Bool.and_true]
theorem okV_no {l:List Lb} {k:Nat} (h:k<l.length) (hf:okV l[k]=false):(l.all okV)=false:=by
 rw [List.all_eq_false]
 exact ⟨l[k],List.getElem_mem h,by rw [hf];simp⟩
theorem right_c (S:Nat->Prop) (l:List Lb) (v:Value) (w:World) (hx:qaa S w l [v]) :
  Calls Tryz.prog 154 #[v] w fun e w'=>e = .returned (.bool (l.all okV))∧Ext w w':=by
 obtain ⟨A,c,rfl,hc,hc0⟩:=hx.val
 have HX:=Hd hx
 have HIL:=fun (x:Lb) (cs:List Value) (wr:World) (h:RLb S wr x cs)=>qrx S x cs wr h
 clear hx
 go_enter Tryz.func154,Tryz.ntmps154
 go_wp2_with fail
 go_loopw [3] (fun vi wr=>∃ k:Nat,k<=l.length∧vi = .int .i64 k∧Ext w wr∧Hid ((l.take k).all okV=true)) (fun vi _=>l.length-(intOf vi).toNat)
 case atStart=>exact ⟨0,Nat.zero_le _,rfl,Ext.refl _,(rfl:([]:List Lb).all okV=true)⟩
 case round =>
  obtain ⟨k,hk,rfl,hE,hal⟩:=hrel
  by_cases hlt:k<l.length
  ·obtain ⟨b,off,cs,rfl,hb,hS,hl,hr,hcell⟩:=(qaa.good.bel HX.out hE).get k hlt
   obtain ⟨_,v3,rfl,hv3⟩:=id hr
   have a0:=hcell.get 0 _
   have a1:=hcell.get 1 _
   simp only [Nat.add_zero] at a0
   obtain ⟨A3,c3,rfl,_,_⟩:=hv3.val
   have hca:=HIL _ _ wr hr
   have HTK:=Hd (okV_take hlt)
   have HNO:=okV_no hlt
   have hokv:okV l[k]=(qaz l[k] && qa3 l[k].g):=rfl
   have hk1:k+1<=l.length:=hlt
   obtain ⟨q1,hq1⟩:∃ q1,l[k].g=q1:=⟨_,rfl⟩
   obtain ⟨q3,hq3⟩:∃ q3,l[k].v.length=q3:=⟨_,rfl⟩
   rw [hq1,hq3] at hca
   rw [hq1] at a0
   rw [hq3] at a1
   cases hb1:qaz l[k]
   ·have HN:Hid ((l.all okV)=false):=HNO (by rw [hokv,hb1];rfl)
    rw [hb1] at hca
    clear hcell hl hS hr hv3 hq1 hq3 HTK HNO hokv hb1
    go_wp2_with fail
    refine hca.mono ?_
    rintro e w1 ⟨rfl,h1⟩
    go_wp2_with fail
    go_ret
    exact ⟨by rw [HN.out];rfl,hE.trans' h1⟩
   ·rw [hb1,hq1,Bool.true_and] at hokv
    rw [hb1] at hca
    rw [hokv] at HTK HNO
    have hcv:=fun w=>qnm q1 (.slice A3 q3 c3) w
    cases hb2:qa3 q1
    ·have HN:Hid ((l.all okV)=false):=HNO hb2
     rw [hb2] at hcv
     clear hcell hl hS hr hv3 hq1 hq3 HTK HNO hokv hb1 hb2
     go_wp2_with fail
     refine hca.mono ?_
     rintro e w1 ⟨rfl,h1⟩
     have hcl:=h1.cells
     go_wp2_with fail
     refine (hcv _).mono ?_
     rintro e w2 ⟨rfl,h2⟩
     go_wp2_with fail
     go_ret
     exact ⟨by rw [HN.out];rfl,(hE.trans' h1).trans' h2⟩
    ·rw [hb2] at hcv HTK
     clear hcell hl hS hr hv3 hq1 hq3 HNO hokv hb1 hb2
     go_wp2_with fail
     refine hca.mono ?_
     rintro e w1 ⟨rfl,h1⟩
     have hcl:=h1.cells
     go_wp2_with fail
     refine (hcv _).mono ?_
     rintro e w2 ⟨rfl,h2⟩
     go_wp2_with fail
     go_roundw
     case rel=>exact ⟨k+1,hk1,by go_num,(hE.trans' h1).trans' h2,(by rw [HTK.out,hal.out];rfl:(l.take (k+1)).all okV=true)⟩
     case measure=>simp [intOf];omega
  ·have HAL:Hid ((l.all okV)=true):=by
    show _=_
    have:=hal.out
    rwa [List.take_of_length_le (by omega)] at this
   go_wp2_with fail
   go_ret
   exact ⟨by rw [HAL.out];rfl,hE⟩
theorem qk1 (S:Nat->Prop) (l:List Lb) (v:Value) (w:World) (hx:qaa S w l [v]) :
  Calls Tryz.prog 84 #[v] w fun e w'=>e = .returned (.bool (qa8 l))∧Ext w w':=by
 have hcon:=right_c S l v w hx
 obtain ⟨A,c,rfl,hc,hc0⟩:=hx.val
 clear hx
 by_cases h:l.length<=40
 ·have HV:=Hd (show qa8 l=l.all okV from by simp [qa8,h])
  go_enter Tryz.func84,Tryz.ntmps84
  go_wp2_with fail
  refine hcon.mono ?_
  rintro e w1 ⟨rfl,h1⟩
  go_wp2_with fail
  go_ret
  exact ⟨by rw [HV.out];rfl,bel⟩
 ·have HV:=Hd (show qa8 l=false from by simp [qa8,h])
  go_enter Tryz.func84,Tryz.ntmps84
  go_wp2_with fail
  go_ret
  exact ⟨by rw [HV.out];rfl,bel⟩
end
end Go.Proofs.YtegenalcheooeaaGreat
