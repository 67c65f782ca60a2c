/- Of the proof of a law of the suites: RVal, RVis. -/
import Derived.Test.YtegenalcheooeaaGreatB05
import Derived.Test.YtegenalcheooeaaGreatB06
import Derived.Test.YtegenalcheooeaaGreatB19
set_option linter.unusedSectionVars false
set_option linter.unusedSimpArgs false
set_option linter.unusedVariables false
namespace Go.Proofs.YtegenalcheooeaaGreat
open Go.RowKit
attribute [local go_sem] cell?_exto
section
set_option maxHeartbeats 1000000
set_option maxRecDepth 100000
/- The reference's values: madrigalref17.Value and what it calls: walked. -/
mutual
def qbj:Tm→Int→Int→Int×Bool
 | .mk _ _ l,left,deep=>if left-1<0∨200<deep then (left-1,false) else qbp l (left-1) deep
def qbp:List Tm→Int→Int→Int×Bool
 | [],left,_=>(left,true)
 | x :: xs,left,deep=>if (qbj x left (deep+1)).2=true then qbp xs (qbj x left (deep+1)).1 deep else ((qbj x left (deep+1)).1,false)
end
def ovr (s:Int×Int):Prop:=s.1 > 2000∨s.2 > 200
theorem qra:∀ (l:List Tm) (d:Int) (s:Int×Int),ovr s→qd9 l d s=s
 | [],d,s,_=>by rw [qd9]
 | x :: xs,d,s,h=>by rw [qd9,if_pos (show s.1 > 2000∨s.2 > 200 from h)]
mutual
theorem cntR_eq:∀ (t:Tm) (d:Int) (s:Int×Int),¬ ovr s→((qbj t (2000-s.1) d).2=true↔¬ ovr (qcg t d s))∧((qbj t (2000-s.1) d).2=true→(qbj t (2000-s.1) d).1=2000-(qcg t d s).1)
 | .mk _ _ l,d,s,h=>by
  have h0:¬ (s.1 > 2000∨s.2 > 200):=h
  rw [qbj,qcg]
  by_cases ho:ovr (s.1+1,if s.2<d then d else s.2)
  ·have ho':s.1+1 > 2000∨(if s.2<d then d else s.2) > 200:=ho
   have hc:2000-s.1-1<0∨200<d:=by
    rcases ho' with h1 | h1
    ·left;omega
    ·right;split at h1 <;> omega
   rw [if_pos hc,qra l d _ ho]
   exact ⟨⟨fun h=>(by cases h),fun h=>absurd ho h⟩,fun h=>by cases h⟩
  ·have ho':¬ (s.1+1 > 2000∨(if s.2<d then d else s.2) > 200):=ho
   have hc:¬ (2000-s.1-1<0∨200<d):=by
    intro h1
    refine ho' (h1.elim (fun h=>.inl (by omega)) fun h=>.inr ?_)
    split <;> omega
   rw [if_neg hc]
   have:=qpx l d (s.1+1,if s.2<d then d else s.2) ho
   simp only at this
   rw [show 2000-s.1-1=2000-(s.1+1) by omega]
   exact this
theorem qpx:∀ (l:List Tm) (d:Int) (s:Int×Int),¬ ovr s→((qbp l (2000-s.1) d).2=true↔¬ ovr (qd9 l d s))∧((qbp l (2000-s.1) d).2=true→(qbp l (2000-s.1) d).1=2000-(qd9 l d s).1)
 | [],d,s,h=>by
  rw [qbp,qd9]
  exact ⟨⟨fun _=>h,fun _=>rfl⟩,fun _=>rfl⟩
 | x :: xs,d,s,h=>by
  have hx:=cntR_eq x (d+1) s h
  rw [qbp,qd9,if_neg (show ¬ (s.1 > 2000∨s.2 > 200) from h)]
  by_cases hc:(qbj x (2000-s.1) (d+1)).2=true
  ·rw [if_pos hc,hx.2 hc]
   exact qpx xs d _ (hx.1.1 hc)
  ·have ho:ovr (qcg x (d+1) s):=Classical.byContradiction fun hn=>hc (hx.1.2 hn)
   rw [if_neg hc,qra xs d _ ho]
   exact ⟨⟨fun h=>(by cases h),fun h=>absurd ho h⟩,fun h=>by cases h⟩
end
mutual
def qdz:Tm→Bool
 | .mk k n l=>!(decide (n<0) || (decide (k≠1) && decide (k≠2)) || (decide (k=1) && decide (0<l.length)) || decide (8<l.length)) && qdy l
def qdy:List Tm→Bool
 | []=>true
 | x :: xs=>qdz x && qdy xs
end
mutual
theorem qp8:∀ t,qbd t=true→qdz t=true
 | .mk k n l,h=>by
  rw [qbd] at h
  simp only [Bool.and_eq_true,decide_eq_true_eq] at h
  rw [qdz,qq4 l h.2,Bool.and_true,Bool.not_eq_true']
  obtain ⟨⟨⟨⟨h1,h2⟩,h3⟩,h4⟩,_⟩:=h
  rw [decide_eq_false (by omega),decide_eq_false (by omega:¬ 8<l.length),show decide (k≠2)=false from decide_eq_false (by omega),show decide (k=1)=false from decide_eq_false (by omega)]
  simp
theorem qq4:∀ l,qdc l=true→qdy l=true
 | [],_=>by rw [qdy]
 | x :: xs,h=>by
  rw [qdc,Bool.and_eq_true] at h
  rw [qdy,qp8 x h.1,qq4 xs h.2]
  rfl
end
theorem isV_ref (t:Tm):isV t=(qbd t && ((qbj t 2000 1).2 && qdz t)):=by
 have h:=(cntR_eq t 1 (0,0) (by unfold ovr;simp)).1
 simp only [Int.sub_zero] at h
 rw [isV]
 cases hv:qbd t with
 | false=>simp
 | true =>
  rw [qp8 t hv,Bool.and_true,Bool.and_true,Bool.true_and]
  by_cases ho:ovr (qcg t 1 (0,0))
  ·have h2:(qbj t 2000 1).2=false:=by
    cases hc:(qbj t 2000 1).2 with
    | false=>rfl
    | true=>exact absurd ho (h.1 hc)
   rw [h2,qgw,if_pos (show (qcg t 1 (0,0)).1 > 2000∨(qcg t 1 (0,0)).2 > 200 from ho)]
   decide
  ·have ho':¬ ((qcg t 1 (0,0)).1 > 2000∨(qcg t 1 (0,0)).2 > 200):=ho
   rw [h.2 ho,qgw,if_neg ho']
   exact decide_eq_true (by omega)
theorem qtu {l:List Tm} {k:Nat} (h:k<l.length):qdc (l.take (k+1))=(qdc (l.take k) && qbd l[k]):=by
 rw [qix,qix,List.take_succ_eq_append_getElem h,List.any_append,List.any_cons,List.any_nil,Bool.or_false,Bool.not_or,Bool.not_not]
theorem allVs_no {l:List Tm} {k:Nat} (h:k<l.length) (hf:qbd l[k]=false):qdc l=false:=by
 rw [qix,List.any_eq_true.2 ⟨l[k],List.getElem_mem h,by rw [hf];rfl⟩]
 rfl
theorem allV_mk (t:Tm):qbd t=(decide (t.k=2) && decide (0≤t.n) && decide (t.n<256) && decide (t.l.length≤8) && qdc t.l):=by cases t;rw [qbd];rfl
def VlC (t:Tm):Prop:=∀ (S:Nat→Prop) (cs:List Value) (W:World),RTm S W t cs→Calls Tryz.prog 283 #[.agg cs.toArray] W fun e w'=>e = .returned (.bool (qbd t))∧Ext W w'
theorem value_of (t:Tm) (ht:∀ x∈t.l,VlC x):VlC t:=by
 intro S cs w hx
 obtain ⟨_,_,v,rfl,hv⟩:=(qay ..).1 hx
 obtain ⟨A,c,rfl,hc,hc0⟩:=hv.val
 have HV:=Hd hv
 have HT:=Hd ht
 have hmk:=allV_mk t
 clear hv hx ht
 by_cases h1:t.k=2
 rotate_left
 ·have HA:Hid (qbd t=false):=by
   show _=_
   rw [hmk,decide_eq_false h1]
   rfl
  clear hmk
  go_enter Tryz.func283,Tryz.ntmps283
  go_wp2_with fail
  go_ret
  exact ⟨by rw [HA.out];rfl,bel⟩
 by_cases h2:t.n<0
 ·have HA:Hid (qbd t=false):=by
   show _=_
   rw [hmk,decide_eq_false (by omega:¬ 0≤t.n),Bool.and_false]
   rfl
  clear hmk
  go_enter Tryz.func283,Tryz.ntmps283
  go_wp2_with fail
  go_ret
  exact ⟨by rw [HA.out];rfl,bel⟩
 by_cases h3:255<t.n
 ·have HA:Hid (qbd t=false):=by
   show _=_
   rw [hmk,decide_eq_false (by omega:¬ t.n<256),Bool.and_false]
   rfl
  clear hmk
  go_enter Tryz.func283,Tryz.ntmps283
  go_wp2_with fail
  go_ret
  exact ⟨by rw [HA.out];rfl,bel⟩
 by_cases h4:8<t.l.length
 ·have HA:Hid (qbd t=false):=by
   show _=_
   rw [hmk,decide_eq_false (by omega:¬ t.l.length≤8),Bool.and_false]
   rfl
  clear hmk
  go_enter Tryz.func283,Tryz.ntmps283
  go_wp2_with fail
  go_ret
  exact ⟨by rw [HA.out];rfl,bel⟩
 have HA:Hid (qbd t=qdc t.l):=by
  show _=_
  rw [hmk,decide_eq_true h1,decide_eq_true (by omega:0≤t.n),decide_eq_true (by omega:t.n<256),decide_eq_true (by omega:t.l.length≤8)]
  rfl
 have hkb:(t.k != 2)=false:=by rw [h1];rfl
 clear h1
 obtain ⟨W0,hW0⟩:∃ W0,w.alloc (.cells #[.int .i64 t.k,.int .i64 t.n,.slice A t.l.length c] 159)=W0:=⟨_,rfl⟩
 have hE0:Ext w W0:=by rw [← hW0];exact (Ext.refl w).alloc _
 have hB0:qah W0 w.heap.size 159 [.int .i64 t.k,.int .i64 t.n,.slice A t.l.length c]:=by rw [← hW0];exact qah.new w 159 _
 have HB0:=Hd hB0
 have HE0:=Hd hE0
 have HW0:=Hd hW0
 clear hmk hE0 hB0 hW0
 go_enter Tryz.func283,Tryz.ntmps283
 go_wp2_with fail
 rw [HW0.out]
 obtain ⟨p0,hp0⟩:∃ p0,w.heap.size=p0:=⟨_,rfl⟩
 rw [hp0] at HB0
 rw [hp0]
 clear hp0 HW0
 go_loopw [3] (fun vi wr=>∃ k:Nat,k≤t.l.length∧vi = .int .i64 k∧Ext W0 wr∧Hid (qdc (t.l.take k)=true)) (fun vi _=>t.l.length-(intOf vi).toNat)
 case atStart=>exact ⟨0,Nat.zero_le _,rfl,Ext.refl _,(show qdc []=true by rw [qdc])⟩
 case round =>
  obtain ⟨k,hk,rfl,hE,hal⟩:=hrel
  have hbx:=HB0.out.ext hE
  have x2:=hbx.cell 2 _
  have xz:=hbx.lt
  clear hbx
  by_cases hlt:k<t.l.length
  ·obtain ⟨b,off,cs,rfl,hb,hS,hl,hr,hcell⟩:=(qal.good.bel HV.out (HE0.out.trans' hE)).get k hlt
   obtain ⟨_,_,v3,rfl,hv3⟩:=(qay ..).1 hr
   have a0:=hcell.get 0 _
   have a1:=hcell.get 1 _
   have a2:=hcell.get 2 _
   simp only [Nat.add_zero] at a0
   obtain ⟨A3,c3,rfl,_,_⟩:=hv3.val
   have hca:=HT.out _ (List.getElem_mem hlt) S _ wr hr
   have HTK:=Hd (qtu hlt)
   have HNO:=Hd (allVs_no hlt)
   obtain ⟨bb,hbb⟩:∃ bb,qbd t.l[k]=bb:=⟨_,rfl⟩
   rw [hbb] at hca HTK HNO
   obtain ⟨q1,hq1⟩:∃ q1,t.l[k].k=q1:=⟨_,rfl⟩
   obtain ⟨q2,hq2⟩:∃ q2,t.l[k].n=q2:=⟨_,rfl⟩
   obtain ⟨q3,hq3⟩:∃ q3,t.l[k].l.length=q3:=⟨_,rfl⟩
   rw [hq1,hq2,hq3] at hca
   rw [hq1] at a0
   rw [hq2] at a1
   rw [hq3] at a2
   have hk1:k+1≤t.l.length:=hlt
   clear hcell hl hS hr hv3 hbb hq1 hq2 hq3
   go_wp2_with fail
   refine hca.mono ?_
   rintro e w1 ⟨rfl,h1⟩
   cases bb
   ·go_wp2_with fail
    go_ret
    exact ⟨by rw [HA.out,HNO.out (by trivial)];rfl,HE0.out.trans' (hE.trans' h1)⟩
   ·go_wp2_with fail
    go_roundw
    case rel=>exact ⟨k+1,hk1,by go_num,hE.trans' h1,(by rw [HTK.out,hal.out];rfl:qdc (t.l.take (k+1))=true)⟩
    case measure=>simp [intOf];omega
  ·have HAL:Hid (qbd t=true):=by
    show _=_
    have:=hal.out
    rw [List.take_of_length_le (by omega)] at this
    rw [HA.out,this]
   go_wp2_with fail
   go_ret
   exact ⟨by rw [HAL.out];rfl,HE0.out.trans' hE⟩
theorem value17_c:∀ t,VlC t:=Tm.ind value_of
theorem qj5:∀ l:List Tm,qdy l = !(l.any fun x=>!qdz x)
 | []=>by rw [qdy];rfl
 | x :: xs=>by rw [qdy,List.any_cons,qj5 xs];simp
theorem qts {l:List Tm} {k:Nat} (h:k<l.length):qdy (l.take (k+1))=(qdy (l.take k) && qdz l[k]):=by
 rw [qj5,qj5,List.take_succ_eq_append_getElem h,List.any_append,List.any_cons,List.any_nil,Bool.or_false,Bool.not_or,Bool.not_not]
theorem qu6 {l:List Tm} {k:Nat} (h:k<l.length) (hf:qdz l[k]=false):qdy l=false:=by
 rw [qj5,List.any_eq_true.2 ⟨l[k],List.getElem_mem h,by rw [hf];rfl⟩]
 rfl
theorem nodesB_mk (t:Tm):qdz t=(!(decide (t.n<0) || (decide (t.k≠1) && decide (t.k≠2)) || (decide (t.k=1) && decide (0<t.l.length)) || decide (8<t.l.length)) && qdy t.l):=by cases t;rw [qdz];rfl
def NdC (t:Tm):Prop:=∀ (S:Nat→Prop) (cs:List Value) (W:World),RTm S W t cs→Calls Tryz.prog 326 #[.agg cs.toArray] W fun e w'=>e = .returned (.bool (qdz t))∧Ext W w'
theorem nodes_of (t:Tm) (ht:∀ x∈t.l,NdC x):NdC t:=by
 intro S cs w hx
 obtain ⟨_,_,v,rfl,hv⟩:=(qay ..).1 hx
 obtain ⟨A,c,rfl,hc,hc0⟩:=hv.val
 have HV:=Hd hv
 have HT:=Hd ht
 have hmk:=nodesB_mk t
 clear hv hx ht
 by_cases hbad:(decide (t.n<0) || (decide (t.k≠1) && decide (t.k≠2)) || (decide (t.k=1) && decide (0<t.l.length)) || decide (8<t.l.length))=true
 ·have HA:Hid (qdz t=false):=by
   show _=_
   rw [hmk,hbad]
   rfl
  clear hmk
  simp only [Bool.or_eq_true,Bool.and_eq_true,decide_eq_true_eq] at hbad
  by_cases g1:t.n<0
  ·clear hbad
   go_enter Tryz.func326,Tryz.ntmps326
   go_wp2_with fail
   go_ret
   exact ⟨by rw [HA.out];rfl,bel⟩
  by_cases g2:t.k=1
  ·by_cases g3:0<t.l.length
   ·clear hbad
    go_enter Tryz.func326,Tryz.ntmps326
    go_wp2_with fail
    go_ret
    exact ⟨by rw [HA.out];rfl,bel⟩
   ·exfalso
    omega
  ·by_cases g3:t.k=2
   ·have g4:8<t.l.length:=by omega
    clear hbad
    go_enter Tryz.func326,Tryz.ntmps326
    go_wp2_with fail
    go_ret
    exact ⟨by rw [HA.out];rfl,bel⟩
   ·clear hbad
    go_enter Tryz.func326,Tryz.ntmps326
    go_wp2_with fail
    go_ret
    exact ⟨by rw [HA.out];rfl,bel⟩
 have hbad':=eq_false_of_ne_true hbad
 have HA:Hid (qdz t=qdy t.l):=by
  show _=_
  rw [hmk,hbad']
  rfl
 simp only [Bool.or_eq_true,Bool.and_eq_true,decide_eq_true_eq,not_or,not_and] at hbad
 obtain ⟨⟨⟨g1,g2⟩,g3⟩,g4⟩:=hbad
 have hk12:t.k=1∨t.k=2:=by omega
 obtain ⟨q,hq⟩:∃ q,t.k=q:=⟨_,rfl⟩
 obtain ⟨m,hm⟩:∃ m,t.n=m:=⟨_,rfl⟩
 rw [hq] at hk12 g3
 rw [hm] at g1
 rw [hq,hm]
 clear hmk hbad' g2 hq hm
 obtain ⟨W0,hW0⟩:∃ W0,w.alloc (.cells #[.int .i64 q,.int .i64 m,.slice A t.l.length c] 159)=W0:=⟨_,rfl⟩
 have hE0:Ext w W0:=by rw [← hW0];exact (Ext.refl w).alloc _
 have hB0:qah W0 w.heap.size 159 [.int .i64 q,.int .i64 m,.slice A t.l.length c]:=by rw [← hW0];exact qah.new w 159 _
 have HB0:=Hd hB0
 have HE0:=Hd hE0
 obtain ⟨p0,hp0⟩:∃ p0,w.heap.size=p0:=⟨_,rfl⟩
 rw [hp0] at HB0
 have HP0:=Hd hp0
 have HW0:=Hd hW0
 clear hE0 hB0 hp0 hW0
 rcases hk12 with rfl | rfl
 all_goals
  try have g5:¬ 0<t.l.length:=g3 (by trivial)
  try clear g3
  go_enter Tryz.func326,Tryz.ntmps326
  go_wp2_with fail
  rw [HW0.out,HP0.out]
  go_loopw [3] (fun vi wr=>∃ k:Nat,k≤t.l.length∧vi = .int .i64 k∧Ext W0 wr∧Hid (qdy (t.l.take k)=true)) (fun vi _=>t.l.length-(intOf vi).toNat)
  case atStart=>exact ⟨0,Nat.zero_le _,rfl,Ext.refl _,(show qdy []=true by rw [qdy])⟩
  case round =>
   obtain ⟨k,hk,rfl,hE,hal⟩:=hrel
   have hbx:=HB0.out.ext hE
   have x2:=hbx.cell 2 _
   have xz:=hbx.lt
   clear hbx
   by_cases hlt:k<t.l.length
   ·first
    | (exfalso;exact g5 (by omega))
    | (
     obtain ⟨b,off,cs,rfl,hb,hS,hl,hr,hcell⟩:=(qal.good.bel HV.out (HE0.out.trans' hE)).get k hlt
     obtain ⟨_,_,v3,rfl,hv3⟩:=(qay ..).1 hr
     have a0:=hcell.get 0 _
     have a1:=hcell.get 1 _
     have a2:=hcell.get 2 _
     simp only [Nat.add_zero] at a0
     obtain ⟨A3,c3,rfl,_,_⟩:=hv3.val
     have hca:=HT.out _ (List.getElem_mem hlt) S _ wr hr
     have HTK:=Hd (qts hlt)
     have HNO:=Hd (qu6 hlt)
     obtain ⟨bb,hbb⟩:∃ bb,qdz t.l[k]=bb:=⟨_,rfl⟩
     rw [hbb] at hca HTK HNO
     obtain ⟨q1,hq1⟩:∃ q1,t.l[k].k=q1:=⟨_,rfl⟩
     obtain ⟨q2,hq2⟩:∃ q2,t.l[k].n=q2:=⟨_,rfl⟩
     obtain ⟨q3,hq3⟩:∃ q3,t.l[k].l.length=q3:=⟨_,rfl⟩
     rw [hq1,hq2,hq3] at hca
     rw [hq1] at a0
     rw [hq2] at a1
     rw [hq3] at a2
     have hk1:k+1≤t.l.length:=hlt
     clear hcell hl hS hr hv3 hbb hq1 hq2 hq3
     go_wp2_with fail
     refine hca.mono ?_
     rintro e w1 ⟨rfl,h1⟩
     cases bb
     ·go_wp2_with fail
      go_ret
      exact ⟨by rw [HA.out,HNO.out (by trivial)];rfl,HE0.out.trans' (hE.trans' h1)⟩
     ·go_wp2_with fail
      go_roundw
      case rel=>exact ⟨k+1,hk1,by go_num,hE.trans' h1,(by rw [HTK.out,hal.out];rfl:qdy (t.l.take (k+1))=true)⟩
      case measure=>simp [intOf];omega)
   ·have HAL:Hid (qdz t=true):=by
     show _=_
     have:=hal.out
     rw [List.take_of_length_le (by omega)] at this
     rw [HA.out,this]
    go_wp2_with fail
    go_ret
    exact ⟨by rw [HAL.out];rfl,HE0.out.trans' hE⟩
theorem nodes_c:∀ t,NdC t:=Tm.ind nodes_of
end
section
set_option maxHeartbeats 1000000
set_option maxRecDepth 100000
/- The reference's values and labels: counted,Is,Tree,Value,IsLabel,Visible,right,Trace: walked. -/
mutual
theorem cntR_le:∀ (t:Tm) (left d:Int),0≤left → -1≤(qbj t left d).1∧(qbj t left d).1≤left∧((qbj t left d).2=true→0≤(qbj t left d).1)
 | .mk _ _ l,left,d,h=>by
  rw [qbj]
  by_cases hc:left-1<0∨200<d
  ·rw [if_pos hc]
   exact ⟨by show -1≤left-1;omega,by show left-1≤left;omega,fun h=>by cases h⟩
  ·rw [if_neg hc]
   have:=qo8 l (left-1) d (by omega)
   exact ⟨this.1,by omega,this.2.2⟩
theorem qo8:∀ (l:List Tm) (left d:Int),0≤left → -1≤(qbp l left d).1∧(qbp l left d).1≤left∧((qbp l left d).2=true→0≤(qbp l left d).1)
 | [],left,d,h=>by rw [qbp];exact ⟨by show -1≤left;omega,Int.le_refl _,fun _=>h⟩
 | x :: xs,left,d,h=>by
  have hx:=cntR_le x left (d+1) h
  rw [qbp]
  by_cases hc:(qbj x left (d+1)).2=true
  ·rw [if_pos hc]
   have:=qo8 xs _ d (hx.2.2 hc)
   exact ⟨this.1,by omega,this.2.2⟩
  ·rw [if_neg hc]
   exact ⟨hx.1,hx.2.1,fun h=>by cases h⟩
end
theorem cntR_mk (t:Tm) (left d:Int):qbj t left d=if left-1<0∨200<d then (left-1,false) else qbp t.l (left-1) d:=by cases t;rw [qbj];rfl
theorem qmw:∀ (xs ys:List Tm) (left d lk:Int),qbp xs left d=(lk,true)→qbp (xs++ys) left d=qbp ys lk d
 | [],ys,left,d,lk,h=>by
  rw [qbp] at h
  injection h with h _
  rw [List.nil_append,h]
 | x :: xs,ys,left,d,lk,h=>by
  rw [qbp] at h
  rw [List.cons_append,qbp]
  by_cases hc:(qbj x left (d+1)).2=true
  ·rw [if_pos hc] at h ⊢
   exact qmw xs ys _ d lk h
  ·rw [if_neg hc] at h
   injection h with _ h
   cases h
theorem qui {l:List Tm} {k:Nat} (h:k<l.length) {left d lk a:Int} (h1:qbp (l.take k) left d=(lk,true)) (h2:qbj l[k] lk (d+1)=(a,true)):qbp (l.take (k+1)) left d=(a,true):=by
 rw [List.take_succ_eq_append_getElem h,qmw _ _ _ _ _ h1,qbp,h2,if_pos rfl,qbp]
theorem cntRs_no {l:List Tm} {k:Nat} (h:k<l.length) {left d lk a:Int} (h1:qbp (l.take k) left d=(lk,true)) (h2:qbj l[k] lk (d+1)=(a,false)):qbp l left d=(a,false):=by
 have:l=l.take k++(l[k] :: l.drop (k+1)):=by rw [List.getElem_cons_drop,List.take_append_drop]
 rw [this,qmw _ _ _ _ _ h1,qbp]
 have h2':qbj l[k] lk (d+1)=(a,false):=h2
 rw [h2',if_neg (by simp)]
def CtC (t:Tm):Prop:=∀ (S:Nat→Prop) (cs:List Value) (W:World) (left deep:Int),RTm S W t cs→0≤left→left≤1000000→0≤deep→deep≤1000000 →
 Calls Tryz.prog 325 #[.agg cs.toArray,.int .i64 left,.int .i64 deep] W fun e w'=>e = .returned (.tuple #[.int .i64 (qbj t left deep).1,.bool (qbj t left deep).2])∧Ext W w'
theorem qu8 (t:Tm) (ht:∀ x∈t.l,CtC x):CtC t:=by
 intro S cs w left deep hx hl0 hl1 hd0 hd1
 obtain ⟨_,_,v,rfl,hv⟩:=(qay ..).1 hx
 obtain ⟨A,c,rfl,hc,hc0⟩:=hv.val
 have HV:=Hd hv
 have HT:=Hd ht
 have hmk:=cntR_mk t left deep
 obtain ⟨q,hq⟩:∃ q,t.k=q:=⟨_,rfl⟩
 obtain ⟨m,hm⟩:∃ m,t.n=m:=⟨_,rfl⟩
 rw [hq,hm]
 clear hv hx ht hq hm
 by_cases h1:left-1<0
 ·have HA:Hid (qbj t left deep=(left-1,false)):=by
   show _=_
   rw [hmk,if_pos (.inl h1)]
  clear hmk
  go_enter Tryz.func325,Tryz.ntmps325
  go_wp2_with fail
  go_ret2
  exact ⟨by rw [HA.out];rfl,bel⟩
 by_cases h2:200<deep
 ·have HA:Hid (qbj t left deep=(left-1,false)):=by
   show _=_
   rw [hmk,if_pos (.inr h2)]
  clear hmk
  go_enter Tryz.func325,Tryz.ntmps325
  go_wp2_with fail
  go_ret2
  exact ⟨by rw [HA.out];rfl,bel⟩
 have HA:Hid (qbj t left deep=qbp t.l (left-1) deep):=by
  show _=_
  rw [hmk,if_neg (by omega)]
 obtain ⟨W0,hW0⟩:∃ W0,w.alloc (.cells #[.int .i64 q,.int .i64 m,.slice A t.l.length c] 159)=W0:=⟨_,rfl⟩
 have hE0:Ext w W0:=by rw [← hW0];exact (Ext.refl w).alloc _
 have hB0:qah W0 w.heap.size 159 [.int .i64 q,.int .i64 m,.slice A t.l.length c]:=by rw [← hW0];exact qah.new w 159 _
 have HB0:=Hd hB0
 have HE0:=Hd hE0
 obtain ⟨p0,hp0⟩:∃ p0,w.heap.size=p0:=⟨_,rfl⟩
 rw [hp0] at HB0
 have HP0:=Hd hp0
 have HW0:=Hd hW0
 clear hmk hE0 hB0 hp0 hW0
 go_enter Tryz.func325,Tryz.ntmps325
 go_wp2_with fail
 rw [HW0.out,HP0.out]
 go_loopw [1,8] (fun vl vi wr=>∃ (k:Nat) (lk:Int),k≤t.l.length∧vi = .int .i64 k∧vl = .int .i64 lk∧0≤lk∧lk≤left∧Ext W0 wr∧Hid (qbp (t.l.take k) (left-1) deep=(lk,true))) (fun _ vi _=>t.l.length-(intOf vi).toNat)
 case atStart=>exact ⟨0,left-1,Nat.zero_le _,rfl,rfl,by omega,by omega,Ext.refl _,(show qbp [] (left-1) deep=(left-1,true) by rw [qbp])⟩
 case round =>
  obtain ⟨k,lk,hk,rfl,rfl,hlk0,hlk1,hE,hal⟩:=hrel
  have hbx:=HB0.out.ext hE
  have x2:=hbx.cell 2 _
  have xz:=hbx.lt
  clear hbx
  by_cases hlt:k<t.l.length
  ·obtain ⟨b,off,cs,rfl,hb,hS,hl,hr,hcell⟩:=(qal.good.bel HV.out (HE0.out.trans' hE)).get k hlt
   obtain ⟨_,_,v3,rfl,hv3⟩:=(qay ..).1 hr
   have a0:=hcell.get 0 _
   have a1:=hcell.get 1 _
   have a2:=hcell.get 2 _
   simp only [Nat.add_zero] at a0
   obtain ⟨A3,c3,rfl,_,_⟩:=hv3.val
   have hca:=HT.out _ (List.getElem_mem hlt) S _ wr lk (deep+1) hr hlk0 (by omega) (by omega) (by omega)
   have hle:=cntR_le t.l[k] lk (deep+1) hlk0
   have HTK:∀ a,qbj t.l[k] lk (deep+1)=(a,true)→Hid (qbp (t.l.take (k+1)) (left-1) deep=(a,true)):=fun a h=>qui hlt hal.out h
   have HNO:∀ a,qbj t.l[k] lk (deep+1)=(a,false)→Hid (qbj t left deep=(a,false)):=fun a h=>by
    show _=_
    rw [HA.out,cntRs_no hlt hal.out h]
   obtain ⟨⟨la,bb⟩,hbb⟩:∃ p:Int×Bool,qbj t.l[k] lk (deep+1)=p:=⟨_,rfl⟩
   rw [hbb] at hca hle HTK HNO
   simp only at hca hle
   obtain ⟨q1,hq1⟩:∃ q1,t.l[k].k=q1:=⟨_,rfl⟩
   obtain ⟨q2,hq2⟩:∃ q2,t.l[k].n=q2:=⟨_,rfl⟩
   obtain ⟨q3,hq3⟩:∃ q3,t.l[k].l.length=q3:=⟨_,rfl⟩
   rw [hq1,hq2,hq3] at hca
   rw [hq1] at a0
   rw [hq2] at a1
   rw [hq3] at a2
   have hk1:k+1≤t.l.length:=hlt
   obtain ⟨hle1,hle2,hle3⟩:=hle
   cases bb
   ·have HN:=HNO la rfl
    clear hcell hl hS hr hv3 hbb hq1 hq2 hq3 HTK HNO hle3
    go_wp2_with fail
    refine hca.mono ?_
    rintro e w1 ⟨rfl,h1⟩
    go_wp2_with fail
    go_ret2
    exact ⟨by rw [HN.out];rfl,HE0.out.trans' (hE.trans' h1)⟩
   ·have HN:=HTK la rfl
    replace hle3:=hle3 rfl
    clear hcell hl hS hr hv3 hbb hq1 hq2 hq3 HTK HNO
    go_wp2_with fail
    refine hca.mono ?_
    rintro e w1 ⟨rfl,h1⟩
    go_wp2_with fail
    go_roundw
    case rel=>exact ⟨k+1,la,hk1,by go_num,rfl,hle3,by omega,hE.trans' h1,HN⟩
    case measure=>simp [intOf];omega
  ·have HAL:Hid (qbj t left deep=(lk,true)):=by
    show _=_
    have:=hal.out
    rw [List.take_of_length_le (by omega)] at this
    rw [HA.out,this]
   go_wp2_with fail
   go_ret2
   exact ⟨by rw [HAL.out];rfl,HE0.out.trans' hE⟩
theorem counted_c:∀ t,CtC t:=Tm.ind qu8
def qge (t:Tm):Bool:=(qbj t 2000 1).2 && qdz t
theorem Is_c (S:Nat→Prop) (t:Tm) (cs:List Value) (w:World) (hx:RTm S w t cs) :
  Calls Tryz.prog 316 #[.agg cs.toArray] w fun e w'=>e = .returned (.bool (qge t))∧Ext w w':=by
 have hc1:=fun W h=>counted_c t S cs W 2000 1 h (by omega) (by omega) (by omega) (by omega)
 have hc2:=fun W h=>nodes_c t S cs W h
 obtain ⟨_,_,v,rfl,hv⟩:=(qay ..).1 hx
 obtain ⟨A,c,rfl,hc,hc0⟩:=hv.val
 have HX:=Hd hx
 clear hx hv
 have hmk:qge t=((qbj t 2000 1).2 && qdz t):=rfl
 obtain ⟨⟨la,bb⟩,hbb⟩:∃ p:Int×Bool,qbj t 2000 1=p:=⟨_,rfl⟩
 rw [hbb] at hc1 hmk
 cases bb
 ·have HA:Hid (qge t=false):=hmk
  clear hmk hbb hc2
  go_enter Tryz.func316,Tryz.ntmps316
  go_wp2_with fail
  refine (hc1 _ (RTm.good.bel HX.out bel)).mono ?_
  rintro e w1 ⟨rfl,h1⟩
  go_wp2_with fail
  go_ret
  exact ⟨by rw [HA.out];rfl,bel⟩
 ·have HA:Hid (qge t=qdz t):=hmk
  clear hmk hbb
  go_enter Tryz.func316,Tryz.ntmps316
  go_wp2_with fail
  refine (hc1 _ (RTm.good.bel HX.out bel)).mono ?_
  rintro e w1 ⟨rfl,h1⟩
  have hcl:=h1.cells
  go_wp2_with fail
  refine (hc2 _ (RTm.good.bel HX.out bel)).mono ?_
  rintro e w2 ⟨rfl,h2⟩
  go_wp2_with fail
  go_ret
  exact ⟨by rw [HA.out];rfl,bel⟩
def treeE (t:Tm):Int:=if qge t then 0 else 4
theorem Tree_c (S:Nat→Prop) (t:Tm) (cs:List Value) (w:World) (hx:RTm S w t cs) :
  Calls Tryz.prog 284 #[.agg cs.toArray] w fun e w'=>e = .returned (.int .i64 (treeE t))∧Ext w w':=by
 have hc1:=fun W h=>Is_c S t cs W h
 obtain ⟨_,_,v,rfl,hv⟩:=(qay ..).1 hx
 obtain ⟨A,c,rfl,hc,hc0⟩:=hv.val
 have HX:=Hd hx
 clear hx hv
 cases hb:qge t
 all_goals
  have HA:=Hd (show treeE t=_ from by rw [treeE,hb])
  rw [hb] at hc1
  simp only [if_true,Bool.false_eq_true,if_false] at HA
  clear hb
  go_enter Tryz.func284,Tryz.ntmps284
  go_wp2_with fail
  refine (hc1 _ (RTm.good.bel HX.out bel)).mono ?_
  rintro e w1 ⟨rfl,h1⟩
  go_wp2_with fail
  go_ret
  exact ⟨by rw [HA.out];rfl,bel⟩
theorem Value17_c (S:Nat→Prop) (t:Tm) (cs:List Value) (w:World) (hx:RTm S w t cs) :
  Calls Tryz.prog 262 #[.agg cs.toArray] w fun e w'=>e = .returned (.bool (isV t))∧Ext w w':=by
 have hc1:=fun W h=>value17_c t S cs W h
 have hc2:=fun W h=>Tree_c S t cs W h
 obtain ⟨_,_,v,rfl,hv⟩:=(qay ..).1 hx
 obtain ⟨A,c,rfl,hc,hc0⟩:=hv.val
 have HX:=Hd hx
 clear hx hv
 have hmk:isV t=(qbd t && qge t):=isV_ref t
 cases hb:qbd t
 ·have HA:Hid (isV t=false):=by
   show _=_
   rw [hmk,hb]
   rfl
  rw [hb] at hc1
  clear hmk hb hc2
  go_enter Tryz.func262,Tryz.ntmps262
  go_wp2_with fail
  refine (hc1 _ (RTm.good.bel HX.out bel)).mono ?_
  rintro e w1 ⟨rfl,h1⟩
  go_wp2_with fail
  go_ret
  exact ⟨by rw [HA.out];rfl,bel⟩
 ·rw [hb,Bool.true_and] at hmk
  cases hi:qge t
  all_goals
   rw [hi] at hmk
   have hte:treeE t=if qge t then 0 else 4:=rfl
   rw [hi] at hte
   simp only [if_true,Bool.false_eq_true,if_false] at hte
   have HA:=Hd hmk
   rw [hb] at hc1
   rw [hte] at hc2
   clear hmk hb hi hte
   go_enter Tryz.func262,Tryz.ntmps262
   go_wp2_with fail
   refine (hc1 _ (RTm.good.bel HX.out bel)).mono ?_
   rintro e w1 ⟨rfl,h1⟩
   have hcl:=h1.cells
   go_wp2_with fail
   refine (hc2 _ (RTm.good.bel HX.out bel)).mono ?_
   rintro e w2 ⟨rfl,h2⟩
   go_wp2_with fail
   go_ret
   exact ⟨by rw [HA.out];rfl,bel⟩
theorem anyV_take {l:List Tm} {k:Nat} (h:k<l.length):((l.take (k+1)).all isV)=((l.take k).all isV && isV l[k]):=by
 rw [List.take_succ_eq_append_getElem h,List.all_append,List.all_cons,List.all_nil,Bool.and_true]
theorem anyV_no {l:List Tm} {k:Nat} (h:k<l.length) (hf:isV l[k]=false):(l.all isV)=false:=by
 rw [List.all_eq_false]
 exact ⟨l[k],List.getElem_mem h,by rw [hf];simp⟩
theorem okLb_all (x:Lb):qax x=(!(decide (x.g < -3) || decide (32≤x.g) || decide (8<x.v.length) || ((decide (x.g = -3) || decide (x.g = -1)) && decide (0<x.v.length))) && x.v.all isV):=by
 rw [qax,Bool.not_or,any_not]
theorem qpq (S:Nat→Prop) (x:Lb) (cs:List Value) (w:World) (hx:RLb S w x cs) :
  Calls Tryz.prog 222 #[.agg cs.toArray] w fun e w'=>e = .returned (.bool (qax x))∧Ext w w':=by
 obtain ⟨_,v,rfl,hv⟩:=id hx
 obtain ⟨A,c,rfl,hc,hc0⟩:=hv.val
 have HV:=Hd hv
 have hmk:=okLb_all x
 obtain ⟨q,hq⟩:∃ q,x.g=q:=⟨_,rfl⟩
 rw [hq] at hmk
 rw [hq]
 clear hx hv hq
 by_cases g1:q < -3
 ·have HA:Hid (qax x=false):=by show _=_;rw [hmk,decide_eq_true g1];rfl
  clear hmk
  go_enter Tryz.func222,Tryz.ntmps222
  go_wp2_with fail
  go_ret
  exact ⟨by rw [HA.out];rfl,bel⟩
 by_cases g2:31<q
 ·have HA:Hid (qax x=false):=by show _=_;rw [hmk,decide_eq_false g1,decide_eq_true (show 32≤q by omega)];rfl
  clear hmk
  go_enter Tryz.func222,Tryz.ntmps222
  go_wp2_with fail
  go_ret
  exact ⟨by rw [HA.out];rfl,bel⟩
 by_cases g3:8<x.v.length
 ·have HA:Hid (qax x=false):=by show _=_;rw [hmk,decide_eq_false g1,decide_eq_false (show ¬ 32≤q by omega),decide_eq_true g3];rfl
  clear hmk
  go_enter Tryz.func222,Tryz.ntmps222
  go_wp2_with fail
  go_ret
  exact ⟨by rw [HA.out];rfl,bel⟩
 rw [decide_eq_false g1,decide_eq_false (show ¬ 32≤q by omega),decide_eq_false g3,Bool.false_or,Bool.false_or,Bool.false_or] at hmk
 by_cases g4:(q = -3∨q = -1)∧0<x.v.length
 ·have HA:Hid (qax x=false):=by
   show _=_
   rw [hmk,decide_eq_true g4.2,Bool.and_true]
   rcases g4.1 with h | h <;> rw [h] <;> rfl
  clear hmk
  obtain ⟨g4,g5⟩:=g4
  rcases g4 with rfl | rfl
  all_goals
   go_enter Tryz.func222,Tryz.ntmps222
   go_wp2_with fail
   go_ret
   exact ⟨by rw [HA.out];rfl,bel⟩
 have HA:Hid (qax x=x.v.all isV):=by
  show _=_
  have:((decide (q = -3) || decide (q = -1)) && decide (0<x.v.length))=false:=by
   rw [Bool.and_eq_false_iff,Bool.or_eq_false_iff,decide_eq_false_iff_not,decide_eq_false_iff_not,decide_eq_false_iff_not]
   by_cases h:0<x.v.length
   ·left
    exact ⟨fun h1=>g4 ⟨.inl h1,h⟩,fun h1=>g4 ⟨.inr h1,h⟩⟩
   ·exact .inr h
  rw [hmk,this]
  rfl
 clear hmk
 obtain ⟨W0,hW0⟩:∃ W0,w.alloc (.cells #[.int .i64 q,.slice A x.v.length c] 61)=W0:=⟨_,rfl⟩
 have hE0:Ext w W0:=by rw [← hW0];exact (Ext.refl w).alloc _
 have hB0:qah W0 w.heap.size 61 [.int .i64 q,.slice A x.v.length c]:=by rw [← hW0];exact qah.new w 61 _
 have HB0:=Hd hB0
 have HE0:=Hd hE0
 obtain ⟨p0,hp0⟩:∃ p0,w.heap.size=p0:=⟨_,rfl⟩
 rw [hp0] at HB0
 have HP0:=Hd hp0
 have HW0:=Hd hW0
 clear hE0 hB0 hp0 hW0
 have g6:(¬ (q = -3)∧¬ (q = -1))∨((q = -3∨q = -1)∧¬ 0<x.v.length):=by omega
 clear g4
 have HAT:Hid (([]:List Tm).all isV=true):=rfl
 have HRD:∀ wr,Ext W0 wr→qal S wr x.v [.slice A x.v.length c]:=fun wr h=>qal.good.bel HV.out (HE0.out.trans' h)
 have HCV:=fun (t:Tm) (cs:List Value) (wr:World) (h:RTm S wr t cs)=>Value17_c S t cs wr h
 rcases g6 with ⟨g6,g7⟩ | ⟨g6,g7⟩
 rotate_left
 ·rcases g6 with rfl | rfl
  all_goals
   go_enter Tryz.func222,Tryz.ntmps222
   go_wp2_with fail
   rw [HW0.out,HP0.out]
   go_loopw [3] (fun vi wr=>vi = .int .i64 0∧Ext W0 wr) (fun vi _=>0)
   case atStart=>exact ⟨rfl,Ext.refl _⟩
   case round =>
    obtain ⟨rfl,hE⟩:=hrel
    have hbx:=HB0.out.ext hE
    have x1:=hbx.cell 1 _
    have xz:=hbx.lt
    clear hbx
    have HAL:Hid (qax x=true):=by
     show _=_
     rw [HA.out,List.eq_nil_of_length_eq_zero (show x.v.length=0 by omega)]
     rfl
    go_wp2_with fail
    go_ret
    exact ⟨by rw [HAL.out];rfl,HE0.out.trans' hE⟩
 go_enter Tryz.func222,Tryz.ntmps222
 go_wp2_with fail
 rw [HW0.out,HP0.out]
 go_loopw [3] (fun vi wr=>∃ k:Nat,k≤x.v.length∧vi = .int .i64 k∧Ext W0 wr∧Hid ((x.v.take k).all isV=true)) (fun vi _=>x.v.length-(intOf vi).toNat)
 case atStart=>exact ⟨0,Nat.zero_le _,rfl,Ext.refl _,HAT⟩
 case round =>
  obtain ⟨k,hk,rfl,hE,hal⟩:=hrel
  have hbx:=HB0.out.ext hE
  have x1:=hbx.cell 1 _
  have xz:=hbx.lt
  clear hbx
  by_cases hlt:k<x.v.length
  ·obtain ⟨b,off,cs,rfl,hb,hS,hl,hr,hcell⟩:=(HRD wr hE).get k hlt
   obtain ⟨_,_,v3,rfl,hv3⟩:=(qay ..).1 hr
   have a0:=hcell.get 0 _
   have a1:=hcell.get 1 _
   have a2:=hcell.get 2 _
   simp only [Nat.add_zero] at a0
   obtain ⟨A3,c3,rfl,_,_⟩:=hv3.val
   have hca:=HCV _ _ wr hr
   have HTK:=Hd (anyV_take hlt)
   have HNO:=Hd (anyV_no hlt)
   obtain ⟨bb,hbb⟩:∃ bb,isV x.v[k]=bb:=⟨_,rfl⟩
   rw [hbb] at hca HTK HNO
   obtain ⟨q1,hq1⟩:∃ q1,x.v[k].k=q1:=⟨_,rfl⟩
   obtain ⟨q2,hq2⟩:∃ q2,x.v[k].n=q2:=⟨_,rfl⟩
   obtain ⟨q3,hq3⟩:∃ q3,x.v[k].l.length=q3:=⟨_,rfl⟩
   rw [hq1,hq2,hq3] at hca
   rw [hq1] at a0
   rw [hq2] at a1
   rw [hq3] at a2
   have hk1:k+1≤x.v.length:=hlt
   clear hcell hl hS hr hv3 hbb hq1 hq2 hq3
   go_wp2_with fail
   refine hca.mono ?_
   rintro e w1 ⟨rfl,h1⟩
   cases bb
   ·go_wp2_with fail
    go_ret
    exact ⟨by rw [HA.out,HNO.out (by trivial)];rfl,HE0.out.trans' (hE.trans' h1)⟩
   ·go_wp2_with fail
    go_roundw
    case rel=>exact ⟨k+1,hk1,by go_num,hE.trans' h1,(by rw [HTK.out,hal.out];rfl:(x.v.take (k+1)).all isV=true)⟩
    case measure=>simp [intOf];omega
  ·have HAL:Hid (qax x=true):=by
    show _=_
    have:=hal.out
    rw [List.take_of_length_le (by omega)] at this
    rw [HA.out,this]
   go_wp2_with fail
   go_ret
   exact ⟨by rw [HAL.out];rfl,HE0.out.trans' hE⟩
theorem qnx (g:Int) (v:Value) (w:World) :
  Calls Tryz.prog 90 #[.agg #[.int .i64 g,v]] w fun e w'=>e = .returned (.bool (qa0 g))∧Ext w w':=by
 by_cases h:0≤g
 ·have HV:=Hd (show qa0 g=true from by simp [qa0,h])
  go_enter Tryz.func90,Tryz.ntmps90
  go_wp2_with fail
  go_ret
  exact ⟨by rw [HV.out];rfl,bel⟩
 ·have HV:=Hd (show qa0 g=(g == -2) from by unfold qa0;rw [decide_eq_false h,Bool.false_or];rfl)
  go_enter Tryz.func90,Tryz.ntmps90
  go_wp2_with fail
  go_ret
  exact ⟨by rw [HV.out];simp,bel⟩
theorem okV_take {l:List Lb} {k:Nat} (h:k<l.length):((l.take (k+1)).all okV)=((l.take k).all okV && okV l[k]):=by
 rw [List.take_succ_eq_append_getElem h,List.all_append,List.all_cons,List.all_nil,Bool.and_true]
theorem okV_no {l:List Lb} {k:Nat} (h:k<l.length) (hf:okV l[k]=false):(l.all okV)=false:=by
 rw [List.all_eq_false]
 exact ⟨l[k],List.getElem_mem h,by rw [hf];simp⟩
theorem right_c (S:Nat→Prop) (l:List Lb) (v:Value) (w:World) (hx:qaa S w l [v]) :
  Calls Tryz.prog 154 #[v] w fun e w'=>e = .returned (.bool (l.all okV))∧Ext w w':=by
 obtain ⟨A,c,rfl,hc,hc0⟩:=hx.val
 have HX:=Hd hx
 have HIL:=fun (x:Lb) (cs:List Value) (wr:World) (h:RLb S wr x cs)=>qpq S x cs wr h
 clear hx
 go_enter Tryz.func154,Tryz.ntmps154
 go_wp2_with fail
 go_loopw [3] (fun vi wr=>∃ k:Nat,k≤l.length∧vi = .int .i64 k∧Ext w wr∧Hid ((l.take k).all okV=true)) (fun vi _=>l.length-(intOf vi).toNat)
 case atStart=>exact ⟨0,Nat.zero_le _,rfl,Ext.refl _,(rfl:([]:List Lb).all okV=true)⟩
 case round =>
  obtain ⟨k,hk,rfl,hE,hal⟩:=hrel
  by_cases hlt:k<l.length
  ·obtain ⟨b,off,cs,rfl,hb,hS,hl,hr,hcell⟩:=(qaa.good.bel HX.out hE).get k hlt
   obtain ⟨_,v3,rfl,hv3⟩:=id hr
   have a0:=hcell.get 0 _
   have a1:=hcell.get 1 _
   simp only [Nat.add_zero] at a0
   obtain ⟨A3,c3,rfl,_,_⟩:=hv3.val
   have hca:=HIL _ _ wr hr
   have HTK:=Hd (okV_take hlt)
   have HNO:=okV_no hlt
   have hokv:okV l[k]=(qax l[k] && qa0 l[k].g):=rfl
   have hk1:k+1≤l.length:=hlt
   obtain ⟨q1,hq1⟩:∃ q1,l[k].g=q1:=⟨_,rfl⟩
   obtain ⟨q3,hq3⟩:∃ q3,l[k].v.length=q3:=⟨_,rfl⟩
   rw [hq1,hq3] at hca
   rw [hq1] at a0
   rw [hq3] at a1
   cases hb1:qax l[k]
   ·have HN:Hid ((l.all okV)=false):=HNO (by rw [hokv,hb1];rfl)
    rw [hb1] at hca
    clear hcell hl hS hr hv3 hq1 hq3 HTK HNO hokv hb1
    go_wp2_with fail
    refine hca.mono ?_
    rintro e w1 ⟨rfl,h1⟩
    go_wp2_with fail
    go_ret
    exact ⟨by rw [HN.out];rfl,hE.trans' h1⟩
   ·rw [hb1,hq1,Bool.true_and] at hokv
    rw [hb1] at hca
    rw [hokv] at HTK HNO
    have hcv:=fun w=>qnx q1 (.slice A3 q3 c3) w
    cases hb2:qa0 q1
    ·have HN:Hid ((l.all okV)=false):=HNO hb2
     rw [hb2] at hcv
     clear hcell hl hS hr hv3 hq1 hq3 HTK HNO hokv hb1 hb2
     go_wp2_with fail
     refine hca.mono ?_
     rintro e w1 ⟨rfl,h1⟩
     have hcl:=h1.cells
     go_wp2_with fail
     refine (hcv _).mono ?_
     rintro e w2 ⟨rfl,h2⟩
     go_wp2_with fail
     go_ret
     exact ⟨by rw [HN.out];rfl,(hE.trans' h1).trans' h2⟩
    ·rw [hb2] at hcv HTK
     clear hcell hl hS hr hv3 hq1 hq3 HNO hokv hb1 hb2
     go_wp2_with fail
     refine hca.mono ?_
     rintro e w1 ⟨rfl,h1⟩
     have hcl:=h1.cells
     go_wp2_with fail
     refine (hcv _).mono ?_
     rintro e w2 ⟨rfl,h2⟩
     go_wp2_with fail
     go_roundw
     case rel=>exact ⟨k+1,hk1,by go_num,(hE.trans' h1).trans' h2,(by rw [HTK.out,hal.out];rfl:(l.take (k+1)).all okV=true)⟩
     case measure=>simp [intOf];omega
  ·have HAL:Hid ((l.all okV)=true):=by
    show _=_
    have:=hal.out
    rwa [List.take_of_length_le (by omega)] at this
   go_wp2_with fail
   go_ret
   exact ⟨by rw [HAL.out];rfl,hE⟩
theorem Trace_c (S:Nat→Prop) (l:List Lb) (v:Value) (w:World) (hx:qaa S w l [v]) :
  Calls Tryz.prog 84 #[v] w fun e w'=>e = .returned (.bool (qbo l))∧Ext w w':=by
 have hcon:=right_c S l v w hx
 obtain ⟨A,c,rfl,hc,hc0⟩:=hx.val
 clear hx
 by_cases h:l.length≤40
 ·have HV:=Hd (show qbo l=l.all okV from by simp [qbo,h])
  go_enter Tryz.func84,Tryz.ntmps84
  go_wp2_with fail
  refine hcon.mono ?_
  rintro e w1 ⟨rfl,h1⟩
  go_wp2_with fail
  go_ret
  exact ⟨by rw [HV.out];rfl,bel⟩
 ·have HV:=Hd (show qbo l=false from by simp [qbo,h])
  go_enter Tryz.func84,Tryz.ntmps84
  go_wp2_with fail
  go_ret
  exact ⟨by rw [HV.out];rfl,bel⟩
end
end Go.Proofs.YtegenalcheooeaaGreat
