/- Of the proof of a law of the suites: RVal, RVis. -/
import Derived.Test.YtegenalcheooeaaGreatB02
import Derived.Test.YtegenalcheooeaaGreatB03
import Derived.Test.YtegenalcheooeaaGreatB11
set_option linter.unusedSectionVars false
set_option linter.unusedSimpArgs false
set_option linter.unusedVariables false
namespace Go.Proofs.YtegenalcheooeaaGreat
open Go.RowKit
attribute [local go_sem] cell?_exto
set_option maxHeartbeats 16000000
set_option maxRecDepth 100000
section
/- The reference's values: madrigalref17.Value and what it calls: walked. -/
mutual
def qbr:Tm->Int->Int->Int×Bool
 | .mk _ _ l,left,deep=>if left-1<0\/200<deep then (left-1,false) else qby l (left-1) deep
def qby:List Tm->Int->Int->Int×Bool
 | [],left,_=>(left,true)
 | x :: xs,left,deep=>if (qbr x left (deep+1)).2=true then qby xs (qbr x left (deep+1)).1 deep else ((qbr x left (deep+1)).1,false)
end
def ovr (s:Int×Int):Prop:=s.1 > 2000\/s.2 > 200
theorem qtw:∀(l:List Tm) (d:Int) (s:Int×Int),ovr s->qew l d s=s
 | [],d,s,_=>by rw[qew]
 | x :: xs,d,s,h=>by rw[qew,if_pos (show s.1 > 2000\/s.2 > 200 from h)]
mutual
theorem cntR_eq:∀(t:Tm) (d:Int) (s:Int×Int),¬ ovr s->((qbr t (2000-s.1) d).2=true↔¬ ovr (qcs t d s))/\((qbr t (2000-s.1) d).2=true->(qbr t (2000-s.1) d).1=2000-(qcs t d s).1)
 | .mk _ _ l,d,s,h=>by
  have h0:¬ (s.1 > 2000\/s.2 > 200):=h;rw[qbr,qcs]
  by_cases ho:ovr (s.1+1,if s.2<d then d else s.2)
  .have ho':s.1+1 > 2000\/(if s.2<d then d else s.2) > 200:=ho
   have hc:2000-s.1-1<0\/200<d:=by
    rcases ho' with h1 | h1
    .left;omega
    right;split at h1 <;> omega
   rw[if_pos hc,qtw l d _ ho];exact⟨⟨λh=>(by cases h),λh=>absurd ho h⟩,λh=>by cases h⟩
  have ho':¬ (s.1+1 > 2000\/(if s.2<d then d else s.2) > 200):=ho
  have hc:¬ (2000-s.1-1<0\/200<d):=by
   intro h1;refine ho' (h1.elim (λh=>.inl (by omega)) λh=>.inr ?_)
   split <;> omega
  rw[if_neg hc];have:=quc l d (s.1+1,if s.2<d then d else s.2) ho;simp only at this;rw[show 2000-s.1-1=2000-(s.1+1) by omega];exact this
theorem quc:∀(l:List Tm) (d:Int) (s:Int×Int),¬ ovr s->((qby l (2000-s.1) d).2=true↔¬ ovr (qew l d s))/\((qby l (2000-s.1) d).2=true->(qby l (2000-s.1) d).1=2000-(qew l d s).1)
 | [],d,s,h=>by
  rw[qby,qew];exact⟨⟨λ_=>h,λ_=>rfl⟩,λ_=>rfl⟩
 | x :: xs,d,s,h=>by
  have hx:=cntR_eq x (d+1) s h;rw[qby,qew,if_neg (show ¬ (s.1 > 2000\/s.2 > 200) from h)]
  by_cases hc:(qbr x (2000-s.1) (d+1)).2=true
  .rw [if_pos hc,hx.2 hc];exact quc xs d _ (hx.1.1 hc)
  have ho:ovr (qcs x (d+1) s):=Classical.byContradiction λhn=>hc (hx.1.2 hn)
  rw[if_neg hc,qtw xs d _ ho];exact⟨⟨λh=>(by cases h),λh=>absurd ho h⟩,λh=>by cases h⟩
end
mutual
def qeq:Tm->Bool
 | .mk k n l=>!(decide (n<0) || (decide (k≠1) && decide (k≠2)) || (decide (k=1) && decide (0<l.length)) || decide (8<l.length)) && qen l
def qen:List Tm->Bool
 | []=>true
 | x :: xs=>qeq x && qen xs
end
mutual
theorem qum:∀t,qbn t=true->qeq t=true
 | .mk k n l,h=>by
  rw[qbn]at h;simp only[Bool.and_eq_true,decide_eq_true_eq]at h;rw[qeq,qt6 l h.2,Bool.and_true,Bool.not_eq_true'];obtain⟨⟨⟨⟨h1,h2⟩,h3⟩,h4⟩,_⟩:=h;rw[decide_eq_false (by omega),decide_eq_false (by omega:¬ 8<l.length),show decide (k≠2)=false from decide_eq_false (by omega),show decide (k=1)=false from decide_eq_false (by omega)]
  simp
theorem qt6:∀l,qd7 l=true->qen l=true
 | [],_=>by rw[qen]
 | x :: xs,h=>by
  rw[qd7,Bool.and_eq_true]at h;rw[qen,qum x h.1,qt6 xs h.2];rfl
end
theorem isV_ref (t:Tm):isV t=(qbn t && ((qbr t 2000 1).2 && qeq t)):=by
 have h:=(cntR_eq t 1 (0,0) (by unfold ovr;simp)).1;simp only[Int.sub_zero]at h;rw[isV]
 cases q:qbn t with
 | false=>simp
 | true =>
  rw[qum t q,Bool.and_true,Bool.and_true,Bool.true_and]
  by_cases c:ovr (qcs t 1 (0,0))
  .have g:(qbr t 2000 1).2=false:=by
    cases o:(qbr t 2000 1).2 with
    | false=>rfl
    | true=>exact absurd c (h.1 o)
   rw[g,qih,if_pos (show(qcs t 1 (0,0)).1 > 2000\/(qcs t 1 (0,0)).2 > 200 from c)];decide
  have f:¬ ((qcs t 1 (0,0)).1 > 2000\/(qcs t 1 (0,0)).2 > 200):=c;rw[h.2 c,qih,if_neg f];exact decide_eq_true (by omega)
theorem qw4 {l:List Tm} {k:Nat} (h:k<l.length):qd7 (l.take (k+1))=(qd7 (l.take k) && qbn l[k]):=by
 rw[qky,qky,List.take_succ_eq_append_getElem h,List.any_append,List.any_cons,List.any_nil,Bool.or_false,Bool.not_or,Bool.not_not]
theorem allVs_no {l:List Tm} {k:Nat} (h:k<l.length) (hf:qbn l[k]=false):qd7 l=false:=by
 rw[qky,List.any_eq_true.2 ⟨l[k],List.getElem_mem h,by rw[hf];rfl⟩];rfl
theorem allV_mk (t:Tm):qbn t=(decide (t.k=2) && decide (0<=t.n) && decide (t.n<256) && decide (t.l.length<=8) && qd7 t.l):=by cases t;rw[qbn];rfl
def VlC (t:Tm):Prop:=∀(S:Nat->Prop) (cs:List Value) (W:World),RTm S W t cs->Calls Tryz.prog 283 #[.agg cs.toArray] W λe w'=>e = .returned (.bool (qbn t))/\Ext W w'
theorem value_of (t:Tm) (ht:∀x∈t.l,VlC x):VlC t:=by
 intro S cs w hx;obtain⟨_,_,v,rfl,hv⟩:=(qa6 ..).1 hx;obtain⟨A,c,rfl,hc,ab⟩:=hv.val;have HV:=Hd hv;have HT:=Hd ht;have f:=allV_mk t;clear hv hx ht
 by_cases y:t.k=2
 rotate_left
 .have q:Hid (qbn t=false):=by
   show _=_;rw[f,decide_eq_false y];rfl
  clear f
  go_enter Tryz.func283,Tryz.ntmps283
  go_wp2_with fail
  go_ret;exact⟨by rw[q.out];rfl,bel⟩
 by_cases h2:t.n<0
 .have q:Hid (qbn t=false):=by
   show _=_;rw[f,decide_eq_false (by omega:¬ 0<=t.n),Bool.and_false];rfl
  clear f
  go_enter Tryz.func283,Tryz.ntmps283
  go_wp2_with fail
  go_ret;exact⟨by rw[q.out];rfl,bel⟩
 by_cases h3:255<t.n
 .have q:Hid (qbn t=false):=by
   show _=_;rw[f,decide_eq_false (by omega:¬ t.n<256),Bool.and_false];rfl
  clear f
  go_enter Tryz.func283,Tryz.ntmps283
  go_wp2_with fail
  go_ret;exact⟨by rw[q.out];rfl,bel⟩
 by_cases h4:8<t.l.length
 .have q:Hid (qbn t=false):=by
   show _=_;rw[f,decide_eq_false (by omega:¬ t.l.length<=8),Bool.and_false];rfl
  clear f
  go_enter Tryz.func283,Tryz.ntmps283
  go_wp2_with fail
  go_ret;exact⟨by rw[q.out];rfl,bel⟩
 have q:Hid (qbn t=qd7 t.l):=by
  show _=_;rw[f,decide_eq_true y,decide_eq_true (by omega:0<=t.n),decide_eq_true (by omega:t.n<256),decide_eq_true (by omega:t.l.length<=8)];rfl
 have ac:(t.k != 2)=false:=by rw[y];rfl
 clear y;obtain⟨M,r⟩:=nm (w.alloc (.cells #[.int .i64 t.k,.int .i64 t.n,.slice A t.l.length c] 159));have T:Ext w M:=by rw[<- r];exact(Ext.refl w).alloc _
 have N:qaf M w.heap.size 159 [.int .i64 t.k,.int .i64 t.n,.slice A t.l.length c]:=by rw[<- r];exact qaf.new w 159 _
 have G:=Hd N;have u:=Hd T;have L:=Hd r;clear f T N r
 go_enter Tryz.func283,Tryz.ntmps283
 go_wp2_with fail
 rw[L.out];obtain⟨p0,C⟩:=nm (w.heap.size);rw[C]at G;rw[C];clear C L
 go_loopw [3] (λvi wr=>∃k:Nat,k<=t.l.length/\vi = .int .i64 k/\Ext M wr/\Hid (qd7 (t.l.take k)=true)) (λvi _=>t.l.length-(intOf vi).toNat)
 case atStart=>exact⟨0,Nat.zero_le _,rfl,Ext.refl _,(show qd7 []=true by rw[qd7])⟩
 obtain⟨k,hk,rfl,O,U⟩:=hrel;have z:=G.out.ext O;have x2:=z.cell 2 _;have xz:=z.lt;clear z
 by_cases o:k<t.l.length
 .obtain ⟨b,ad,cs,rfl,hb,hS,hl,hr,g⟩:=(qar.good.bel HV.out (u.out.trans' O)).get k o;obtain⟨_,_,v3,rfl,X⟩:=(qa6 ..).1 hr;obtain⟨a0,a1,a2⟩:=g3 g;obtain⟨A3,c3,rfl,_,_⟩:=X.val;have B:=HT.out _ (List.getElem_mem o) S _ wr hr;have J:=Hd (qw4 o);have I:=Hd (allVs_no o);obtain⟨bb,V⟩:=nm (qbn t.l[k]);rw[V]at B J I;obtain⟨q1,D⟩:=nm (t.l[k].k);obtain⟨q2,E⟩:=nm (t.l[k].n);obtain⟨q3,F⟩:=nm (t.l[k].l.length);rw[D,E,F]at B;rw[D]at a0;rw[E]at a1;rw[F]at a2;have aa:k+1<=t.l.length:=o;clear g hl hS hr X V D E F
  go_wp2_with fail
  refine B.mono ?_;rintro e w1 ⟨rfl,y⟩
  cases bb
  .go_wp2_with fail
   go_ret;exact⟨by rw[q.out,I.out (by trivial)];rfl,u.out.trans' (O.trans' y)⟩
  go_wp2_with fail
  go_roundw
  case rel=>exact⟨k+1,aa,by go_num,O.trans' y,(by rw[J.out,U.out];rfl:qd7 (t.l.take (k+1))=true)⟩
  simp[intOf];omega
 have Y:Hid (qbn t=true):=by
  show _=_;have:=U.out;rw[List.take_of_length_le (by omega)]at this;rw[q.out,this]
 go_wp2_with fail
 go_ret;exact⟨by rw[Y.out];rfl,u.out.trans' O⟩
theorem value17_c:∀t,VlC t:=Tm.ind value_of
theorem qnl:∀l:List Tm,qen l = !(l.any λx=>!qeq x)
 | []=>by rw[qen];rfl
 | x :: xs=>by rw[qen,List.any_cons,qnl xs];simp
theorem qzp {l:List Tm} {k:Nat} (h:k<l.length):qen (l.take (k+1))=(qen (l.take k) && qeq l[k]):=by
 rw[qnl,qnl,List.take_succ_eq_append_getElem h,List.any_append,List.any_cons,List.any_nil,Bool.or_false,Bool.not_or,Bool.not_not]
theorem qx9 {l:List Tm} {k:Nat} (h:k<l.length) (hf:qeq l[k]=false):qen l=false:=by
 rw[qnl,List.any_eq_true.2 ⟨l[k],List.getElem_mem h,by rw[hf];rfl⟩];rfl
theorem nodesB_mk (t:Tm):qeq t=(!(decide (t.n<0) || (decide (t.k≠1) && decide (t.k≠2)) || (decide (t.k=1) && decide (0<t.l.length)) || decide (8<t.l.length)) && qen t.l):=by cases t;rw[qeq];rfl
def NdC (t:Tm):Prop:=∀(S:Nat->Prop) (cs:List Value) (W:World),RTm S W t cs->Calls Tryz.prog 326 #[.agg cs.toArray] W λe w'=>e = .returned (.bool (qeq t))/\Ext W w'
theorem nodes_of (t:Tm) (ht:∀x∈t.l,NdC x):NdC t:=by
 intro S cs w hx;obtain⟨_,_,v,rfl,hv⟩:=(qa6 ..).1 hx;obtain⟨A,c,rfl,hc,ag⟩:=hv.val;have HV:=Hd hv;have HT:=Hd ht;have y:=nodesB_mk t;clear hv hx ht
 by_cases f:(decide (t.n<0) || (decide (t.k≠1) && decide (t.k≠2)) || (decide (t.k=1) && decide (0<t.l.length)) || decide (8<t.l.length))=true
 .have B:Hid (qeq t=false):=by
   show _=_;rw[y,f];rfl
  clear y;simp only[Bool.or_eq_true,Bool.and_eq_true,decide_eq_true_eq]at f
  by_cases g1:t.n<0
  .clear f
   go_enter Tryz.func326,Tryz.ntmps326
   go_wp2_with fail
   go_ret;exact⟨by rw[B.out];rfl,bel⟩
  by_cases g2:t.k=1
  .by_cases T:0<t.l.length
   .clear f
    go_enter Tryz.func326,Tryz.ntmps326
    go_wp2_with fail
    go_ret;exact⟨by rw[B.out];rfl,bel⟩
   exfalso;omega
  by_cases T:t.k=2
  .have g4:8<t.l.length:=by omega
   clear f
   go_enter Tryz.func326,Tryz.ntmps326
   go_wp2_with fail
   go_ret;exact⟨by rw[B.out];rfl,bel⟩
  clear f
  go_enter Tryz.func326,Tryz.ntmps326
  go_wp2_with fail
  go_ret;exact⟨by rw[B.out];rfl,bel⟩
 have o:=eq_false_of_ne_true f
 have B:Hid (qeq t=qen t.l):=by
  show _=_;rw[y,o];rfl
 simp only[Bool.or_eq_true,Bool.and_eq_true,decide_eq_true_eq,not_or,not_and]at f;obtain⟨⟨⟨g1,g2⟩,T⟩,g4⟩:=f;have z:t.k=1\/t.k=2:=by omega
 obtain⟨q,hq⟩:=nm (t.k);obtain⟨m,hm⟩:=nm (t.n);rw[hq]at z T;rw[hm]at g1;rw[hq,hm];clear y o g2 hq hm;obtain⟨O,u⟩:=nm (w.alloc (.cells #[.int .i64 q,.int .i64 m,.slice A t.l.length c] 159));have X:Ext w O:=by rw[<- u];exact(Ext.refl w).alloc _
 have U:qaf O w.heap.size 159 [.int .i64 q,.int .i64 m,.slice A t.l.length c]:=by rw[<- u];exact qaf.new w 159 _
 have L:=Hd U;have C:=Hd X;obtain⟨p0,F⟩:=nm (w.heap.size);rw[F]at L;have ad:=Hd F;have ae:=Hd u;clear X U F u
 rcases z with rfl | rfl
 all_goals
  try have g5:¬ 0<t.l.length:=T (by trivial)
  try clear T
  go_enter Tryz.func326,Tryz.ntmps326
  go_wp2_with fail
  rw[ae.out,ad.out]
  go_loopw [3] (λvi wr=>∃k:Nat,k<=t.l.length/\vi = .int .i64 k/\Ext O wr/\Hid (qen (t.l.take k)=true)) (λvi _=>t.l.length-(intOf vi).toNat)
  case atStart=>exact⟨0,Nat.zero_le _,rfl,Ext.refl _,(show qen []=true by rw[qen])⟩
  obtain⟨k,hk,rfl,V,Y⟩:=hrel;have D:=L.out.ext V;have x2:=D.cell 2 _;have xz:=D.lt;clear D
  by_cases r:k<t.l.length
  .first
   | (exfalso;exact g5 (by omega))
   | (
    obtain⟨b,ah,cs,rfl,hb,hS,hl,hr,g⟩:=(qar.good.bel HV.out (C.out.trans' V)).get k r;obtain⟨_,_,v3,rfl,ab⟩:=(qa6 ..).1 hr;have a0:=g.get 0 _;have a1:=g.get 1 _;have a2:=g.get 2 _;simp only[Nat.add_zero]at a0;obtain⟨A3,c3,rfl,_,_⟩:=ab.val;have E:=HT.out _ (List.getElem_mem r) S _ wr hr;have N:=Hd (qzp r);have M:=Hd (qx9 r);obtain⟨bb,aa⟩:=nm (qeq t.l[k]);rw[aa]at E N M;obtain⟨q1,G⟩:=nm (t.l[k].k);obtain⟨q2,I⟩:=nm (t.l[k].n);obtain⟨q3,J⟩:=nm (t.l[k].l.length);rw[G,I,J]at E;rw[G]at a0;rw[I]at a1;rw[J]at a2;have af:k+1<=t.l.length:=r;clear g hl hS hr ab aa G I J
    go_wp2_with fail
    refine E.mono ?_;rintro e w1 ⟨rfl,h1⟩
    cases bb
    .go_wp2_with fail
     go_ret;exact⟨by rw[B.out,M.out (by trivial)];rfl,C.out.trans' (V.trans' h1)⟩
    go_wp2_with fail
    go_roundw
    case rel=>exact⟨k+1,af,by go_num,V.trans' h1,(by rw[N.out,Y.out];rfl:qen (t.l.take (k+1))=true)⟩
    simp[intOf];omega)
  have ac:Hid (qeq t=true):=by
   show _=_;have:=Y.out;rw[List.take_of_length_le (by omega)]at this;rw[B.out,this]
  go_wp2_with fail
  go_ret;exact⟨by rw[ac.out];rfl,C.out.trans' V⟩
theorem nodes_c:∀t,NdC t:=Tm.ind nodes_of
end
section
/- The reference's values and labels: counted,Is,Tree,Value,IsLabel,Visible,right,Trace: walked. -/
mutual
theorem cntR_le:∀(t:Tm) (left d:Int),0<=left -> -1<=(qbr t left d).1/\(qbr t left d).1<=left/\((qbr t left d).2=true->0<=(qbr t left d).1)
 | .mk _ _ l,left,d,h=>by
  rw[qbr]
  by_cases hc:left-1<0\/200<d
  .rw [if_pos hc];exact⟨by show -1<=left-1;omega,by show left-1<=left;omega,λh=>by cases h⟩
  rw[if_neg hc];have:=qwp l (left-1) d (by omega);exact⟨this.1,by omega,this.2.2⟩
theorem qwp:∀(l:List Tm) (left d:Int),0<=left -> -1<=(qby l left d).1/\(qby l left d).1<=left/\((qby l left d).2=true->0<=(qby l left d).1)
 | [],left,d,h=>by rw[qby];exact⟨by show -1<=left;omega,Int.le_refl _,λ_=>h⟩
 | x :: xs,left,d,h=>by
  have hx:=cntR_le x left (d+1) h;rw[qby]
  by_cases hc:(qbr x left (d+1)).2=true
  .rw [if_pos hc];have:=qwp xs _ d (hx.2.2 hc);exact⟨this.1,by omega,this.2.2⟩
  rw[if_neg hc];exact⟨hx.1,hx.2.1,λh=>by cases h⟩
end
theorem cntR_mk (t:Tm) (left d:Int):qbr t left d=if left-1<0\/200<d then (left-1,false) else qby t.l (left-1) d:=by cases t;rw[qbr];rfl
theorem qq5:∀(xs f:List Tm) (left d c:Int),qby xs left d=(c,true)->qby (xs++f) left d=qby f c d
 | [],f,left,d,c,h=>by
  rw[qby]at h;injection h with h _
  rw[List.nil_append,h]
 | x :: xs,f,left,d,c,h=>by
  rw[qby]at h;rw[List.cons_append,qby]
  by_cases g:(qbr x left (d+1)).2=true
  .rw [if_pos g]at h ⊢;exact qq5 xs f _ d c h
  rw[if_neg g]at h;injection h with _ h
  cases h
theorem qye {l:List Tm} {k:Nat} (h:k<l.length) {left d c a:Int} (f:qby (l.take k) left d=(c,true)) (g:qbr l[k] c (d+1)=(a,true)):qby (l.take (k+1)) left d=(a,true):=by
 rw[List.take_succ_eq_append_getElem h,qq5 _ _ _ _ _ f,qby,g,if_pos rfl,qby]
theorem cntRs_no {l:List Tm} {k:Nat} (h:k<l.length) {left d f a:Int} (g:qby (l.take k) left d=(f,true)) (o:qbr l[k] f (d+1)=(a,false)):qby l left d=(a,false):=by
 have:l=l.take k++(l[k] :: l.drop (k+1)):=by rw[List.getElem_cons_drop,List.take_append_drop]
 rw[this,qq5 _ _ _ _ _ g,qby];have c:qbr l[k] f (d+1)=(a,false):=o;rw[c,if_neg (by simp)]
def CtC (t:Tm):Prop:=∀(S:Nat->Prop) (cs:List Value) (W:World) (left deep:Int),RTm S W t cs->0<=left->left<=1000000->0<=deep->deep<=1000000 ->
 Calls Tryz.prog 325 #[.agg cs.toArray,.int .i64 left,.int .i64 deep] W λe w'=>e = .returned (.tuple #[.int .i64 (qbr t left deep).1,.bool (qbr t left deep).2])/\Ext W w'
theorem qzh (t:Tm) (ht:∀x∈t.l,CtC x):CtC t:=by
 intro S cs w left f hx am an ak al;obtain⟨_,_,v,rfl,hv⟩:=(qa6 ..).1 hx;obtain⟨A,c,rfl,hc,aj⟩:=hv.val;have HV:=Hd hv;have HT:=Hd ht;have r:=cntR_mk t left f;obtain⟨q,hq⟩:=nm (t.k);obtain⟨m,hm⟩:=nm (t.n);rw[hq,hm];clear hv hx ht hq hm
 by_cases h1:left-1<0
 .have V:Hid (qbr t left f=(left-1,false)):=by
   show _=_;rw[r,if_pos (.inl h1)]
  clear r
  go_enter Tryz.func325,Tryz.ntmps325
  go_wp2_with fail
  go_ret2;exact⟨by rw[V.out];rfl,bel⟩
 by_cases h2:200<f
 .have V:Hid (qbr t left f=(left-1,false)):=by
   show _=_;rw[r,if_pos (.inr h2)]
  clear r
  go_enter Tryz.func325,Tryz.ntmps325
  go_wp2_with fail
  go_ret2;exact⟨by rw[V.out];rfl,bel⟩
 have V:Hid (qbr t left f=qby t.l (left-1) f):=by
  show _=_;rw[r,if_neg (by omega)]
 obtain⟨Y,D⟩:=nm (w.alloc (.cells #[.int .i64 q,.int .i64 m,.slice A t.l.length c] 159));have ab:Ext w Y:=by rw[<- D];exact(Ext.refl w).alloc _
 have aa:qaf Y w.heap.size 159 [.int .i64 q,.int .i64 m,.slice A t.l.length c]:=by rw[<- D];exact qaf.new w 159 _
 have X:=Hd aa;have J:=Hd ab;obtain⟨p0,T⟩:=nm (w.heap.size);rw[T]at X;have ad:=Hd T;have ae:=Hd D;clear r ab aa T D
 go_enter Tryz.func325,Tryz.ntmps325
 go_wp2_with fail
 rw[ae.out,ad.out]
 go_loopw [1,8] (λvl vi wr=>∃(k:Nat) (z:Int),k<=t.l.length/\vi = .int .i64 k/\vl = .int .i64 z/\0<=z/\z<=left/\Ext Y wr/\Hid (qby (t.l.take k) (left-1) f=(z,true))) (λ_ vi _=>t.l.length-(intOf vi).toNat)
 case atStart=>exact⟨0,left-1,Nat.zero_le _,rfl,rfl,by omega,by omega,Ext.refl _,(show qby [] (left-1) f=(left-1,true) by rw[qby])⟩
 obtain⟨k,z,hk,rfl,rfl,I,ai,hE,L⟩:=hrel;have N:=X.out.ext hE;have x2:=N.cell 2 _;have xz:=N.lt;clear N
 by_cases y:k<t.l.length
 .obtain ⟨b,ao,cs,rfl,hb,hS,hl,hr,g⟩:=(qar.good.bel HV.out (J.out.trans' hE)).get k y;obtain⟨_,_,v3,rfl,U⟩:=(qa6 ..).1 hr;obtain⟨a0,a1,a2⟩:=g3 g;obtain⟨A3,c3,rfl,_,_⟩:=U.val;have u:=HT.out _ (List.getElem_mem y) S _ wr z (f+1) hr I (by omega) (by omega) (by omega);have O:=cntR_le t.l[k] z (f+1) I;have C:∀a,qbr t.l[k] z (f+1)=(a,true)->Hid (qby (t.l.take (k+1)) (left-1) f=(a,true)):=λa h=>qye y L.out h
  have B:∀a,qbr t.l[k] z (f+1)=(a,false)->Hid (qbr t left f=(a,false)):=λa h=>by
   show _=_;rw[V.out,cntRs_no y L.out h]
  obtain⟨⟨la,bb⟩,M⟩:∃p:Int×Bool,qbr t.l[k] z (f+1)=p:=⟨_,rfl⟩
  rw[M]at u O C B;simp only at u O;obtain⟨q1,E⟩:=nm (t.l[k].k);obtain⟨q2,F⟩:=nm (t.l[k].n);obtain⟨q3,G⟩:=nm (t.l[k].l.length);rw[E,F,G]at u;rw[E]at a0;rw[F]at a1;rw[G]at a2;have af:k+1<=t.l.length:=y;obtain⟨ag,ah,o⟩:=O
  cases bb
  .have HN:=B la rfl;clear g hl hS hr U M E F G C B o
   go_wp2_with fail
   refine u.mono ?_;rintro e w1 ⟨rfl,h1⟩
   go_wp2_with fail
   go_ret2;exact⟨by rw[HN.out];rfl,J.out.trans' (hE.trans' h1)⟩
  have HN:=C la rfl;replace o:=o rfl;clear g hl hS hr U M E F G C B
  go_wp2_with fail
  refine u.mono ?_;rintro e w1 ⟨rfl,h1⟩
  go_wp2_with fail
  go_roundw
  case rel=>exact⟨k+1,la,af,by go_num,rfl,o,by omega,hE.trans' h1,HN⟩
  simp[intOf];omega
 have ac:Hid (qbr t left f=(z,true)):=by
  show _=_;have:=L.out;rw[List.take_of_length_le (by omega)]at this;rw[V.out,this]
 go_wp2_with fail
 go_ret2;exact⟨by rw[ac.out];rfl,J.out.trans' hE⟩
theorem counted_c:∀t,CtC t:=Tm.ind qzh
def qho (t:Tm):Bool:=(qbr t 2000 1).2 && qeq t
theorem Is_c (S:Nat->Prop) (t:Tm) (cs:List Value) (w:World) (y:RTm S w t cs) :
  Calls Tryz.prog 316 #[.agg cs.toArray] w λe F=>e = .returned (.bool (qho t))/\Ext w F:=by
 have o:=λW h=>counted_c t S cs W 2000 1 h (by omega) (by omega) (by omega) (by omega)
 have q:=λW h=>nodes_c t S cs W h
 obtain⟨_,_,v,rfl,B⟩:=(qa6 ..).1 y;obtain⟨A,c,rfl,J,D⟩:=B.val;have u:=Hd y;clear y B;have f:qho t=((qbr t 2000 1).2 && qeq t):=rfl;obtain⟨⟨L,C⟩,g⟩:∃p:Int×Bool,qbr t 2000 1=p:=⟨_,rfl⟩
 rw[g]at o f
 cases C
 .have r:Hid (qho t=false):=f;clear f g q
  go_enter Tryz.func316,Tryz.ntmps316
  go_wp2_with fail
  refine(o _ (RTm.good.bel u.out bel)).mono ?_;rintro e G ⟨rfl,z⟩
  go_wp2_with fail
  go_ret;exact⟨by rw[r.out];rfl,bel⟩
 have r:Hid (qho t=qeq t):=f;clear f g
 go_enter Tryz.func316,Tryz.ntmps316
 go_wp2_with fail
 refine(o _ (RTm.good.bel u.out bel)).mono ?_;rintro e G ⟨rfl,z⟩;have E:=z.cells
 go_wp2_with fail
 refine(q _ (RTm.good.bel u.out bel)).mono ?_;rintro e M ⟨rfl,I⟩
 go_wp2_with fail
 go_ret;exact⟨by rw[r.out];rfl,bel⟩
def treeE (t:Tm):Int:=if qho t then 0 else 4
theorem Tree_c (S:Nat->Prop) (t:Tm) (cs:List Value) (w:World) (o:RTm S w t cs) :
  Calls Tryz.prog 284 #[.agg cs.toArray] w λe z=>e = .returned (.int .i64 (treeE t))/\Ext w z:=by
 have f:=λW h=>Is_c S t cs W h
 obtain⟨_,_,v,rfl,r⟩:=(qa6 ..).1 o;obtain⟨A,c,rfl,C,y⟩:=r.val;have u:=Hd o;clear o r
 cases g:qho t
 all_goals
  have q:=Hd (show treeE t=_ from by rw[treeE,g]);rw[g]at f;simp only[if_true,Bool.false_eq_true,if_false]at q;clear g
  go_enter Tryz.func284,Tryz.ntmps284
  go_wp2_with fail
  refine(f _ (RTm.good.bel u.out bel)).mono ?_;rintro e D ⟨rfl,B⟩
  go_wp2_with fail
  go_ret;exact⟨by rw[q.out];rfl,bel⟩
theorem Value17_c (S:Nat->Prop) (t:Tm) (cs:List Value) (w:World) (z:RTm S w t cs) :
  Calls Tryz.prog 262 #[.agg cs.toArray] w λe F=>e = .returned (.bool (isV t))/\Ext w F:=by
 have g:=λW h=>value17_c t S cs W h
 have q:=λW h=>Tree_c S t cs W h
 obtain⟨_,_,v,rfl,C⟩:=(qa6 ..).1 z;obtain⟨A,c,rfl,J,D⟩:=C.val;have y:=Hd z;clear z C;have f:isV t=(qbn t && qho t):=isV_ref t
 cases r:qbn t
 .have u:Hid (isV t=false):=by
   show _=_;rw[f,r];rfl
  rw[r]at g;clear f r q
  go_enter Tryz.func262,Tryz.ntmps262
  go_wp2_with fail
  refine(g _ (RTm.good.bel y.out bel)).mono ?_;rintro e G ⟨rfl,B⟩
  go_wp2_with fail
  go_ret;exact⟨by rw[u.out];rfl,bel⟩
 rw[r,Bool.true_and]at f
 cases hi:qho t
 all_goals
  rw[hi]at f;have o:treeE t=if qho t then 0 else 4:=rfl
  rw[hi]at o;simp only[if_true,Bool.false_eq_true,if_false]at o;have u:=Hd f;rw[r]at g;rw[o]at q;clear f r hi o
  go_enter Tryz.func262,Tryz.ntmps262
  go_wp2_with fail
  refine(g _ (RTm.good.bel y.out bel)).mono ?_;rintro e G ⟨rfl,B⟩;have E:=B.cells
  go_wp2_with fail
  refine(q _ (RTm.good.bel y.out bel)).mono ?_;rintro e L ⟨rfl,I⟩
  go_wp2_with fail
  go_ret;exact⟨by rw[u.out];rfl,bel⟩
theorem anyV_take {l:List Tm} {k:Nat} (h:k<l.length):((l.take (k+1)).all isV)=((l.take k).all isV && isV l[k]):=by
 rw[List.take_succ_eq_append_getElem h,List.all_append,List.all_cons,List.all_nil,Bool.and_true]
theorem anyV_no {l:List Tm} {k:Nat} (h:k<l.length) (hf:isV l[k]=false):(l.all isV)=false:=by
 rw[List.all_eq_false];exact⟨l[k],List.getElem_mem h,by rw[hf];simp⟩
theorem okLb_all (x:Lb):qa0 x=(!(decide (x.g < -3) || decide (32<=x.g) || decide (8<x.v.length) || ((decide (x.g = -3) || decide (x.g = -1)) && decide (0<x.v.length))) && x.v.all isV):=by
 rw[qa0,Bool.not_or,any_not]
theorem qp5 (S:Nat->Prop) (x:Lb) (cs:List Value) (w:World) (hx:RLb S w x cs) :
  Calls Tryz.prog 222 #[.agg cs.toArray] w λe w'=>e = .returned (.bool (qa0 x))/\Ext w w':=by
 obtain⟨_,v,rfl,hv⟩:=id hx;obtain⟨A,c,rfl,hc,aj⟩:=hv.val;have HV:=Hd hv;have f:=okLb_all x;obtain⟨q,hq⟩:=nm (x.g);rw[hq]at f;rw[hq];clear hx hv hq
 by_cases g1:q < -3
 .have u:Hid (qa0 x=false):=by show _=_;rw[f,decide_eq_true g1];rfl
  clear f
  go_enter Tryz.func222,Tryz.ntmps222
  go_wp2_with fail
  go_ret;exact⟨by rw[u.out];rfl,bel⟩
 by_cases g2:31<q
 .have u:Hid (qa0 x=false):=by show _=_;rw[f,decide_eq_false g1,decide_eq_true (show 32<=q by omega)];rfl
  clear f
  go_enter Tryz.func222,Tryz.ntmps222
  go_wp2_with fail
  go_ret;exact⟨by rw[u.out];rfl,bel⟩
 by_cases g3:8<x.v.length
 .have u:Hid (qa0 x=false):=by show _=_;rw[f,decide_eq_false g1,decide_eq_false (show ¬ 32<=q by omega),decide_eq_true g3];rfl
  clear f
  go_enter Tryz.func222,Tryz.ntmps222
  go_wp2_with fail
  go_ret;exact⟨by rw[u.out];rfl,bel⟩
 rw[decide_eq_false g1,decide_eq_false (show ¬ 32<=q by omega),decide_eq_false g3,Bool.false_or,Bool.false_or,Bool.false_or]at f
 by_cases C:(q = -3\/q = -1)/\0<x.v.length
 .have u:Hid (qa0 x=false):=by
   show _=_;rw[f,decide_eq_true C.2,Bool.and_true]
   rcases C.1 with h | h <;> rw[h] <;> rfl
  clear f;obtain⟨C,g5⟩:=C
  rcases C with rfl | rfl
  all_goals
   go_enter Tryz.func222,Tryz.ntmps222
   go_wp2_with fail
   go_ret;exact⟨by rw[u.out];rfl,bel⟩
 have u:Hid (qa0 x=x.v.all isV):=by
  show _=_
  have:((decide (q = -3) || decide (q = -1)) && decide (0<x.v.length))=false:=by
   rw[Bool.and_eq_false_iff,Bool.or_eq_false_iff,decide_eq_false_iff_not,decide_eq_false_iff_not,decide_eq_false_iff_not]
   by_cases h:0<x.v.length
   .left
    exact⟨λO=>C ⟨.inl O,h⟩,λO=>C ⟨.inr O,h⟩⟩
   exact .inr h
  rw[f,this];rfl
 clear f;obtain⟨G,z⟩:=nm (w.alloc (.cells #[.int .i64 q,.slice A x.v.length c] 61));have ab:Ext w G:=by rw[<- z];exact(Ext.refl w).alloc _
 have aa:qaf G w.heap.size 61 [.int .i64 q,.slice A x.v.length c]:=by rw[<- z];exact qaf.new w 61 _
 have F:=Hd aa;have y:=Hd ab;obtain⟨p0,J⟩:=nm (w.heap.size);rw[J]at F;have V:=Hd J;have Y:=Hd z;clear ab aa J z;have g6:(¬ (q = -3)/\¬ (q = -1))\/((q = -3\/q = -1)/\¬ 0<x.v.length):=by omega
 clear C;have af:Hid (([]:List Tm).all isV=true):=rfl;have ah:∀wr,Ext G wr->qar S wr x.v [.slice A x.v.length c]:=λwr h=>qar.good.bel HV.out (y.out.trans' h)
 have ag:=λ(t:Tm) (cs:List Value) (wr:World) (h:RTm S wr t cs)=>Value17_c S t cs wr h
 rcases g6 with⟨g6,g7⟩ | ⟨g6,g7⟩
 rotate_left
 .rcases g6 with rfl | rfl
  all_goals
   go_enter Tryz.func222,Tryz.ntmps222
   go_wp2_with fail
   rw[Y.out,V.out]
   go_loopw [3] (λT wr=>T = .int .i64 0/\Ext G wr) (λT _=>0)
   case atStart=>exact⟨rfl,Ext.refl _⟩
   obtain⟨rfl,D⟩:=hrel;have r:=F.out.ext D;have x1:=r.cell 1 _;have xz:=r.lt;clear r
   have E:Hid (qa0 x=true):=by
    show _=_;rw[u.out,List.eq_nil_of_length_eq_zero (show x.v.length=0 by omega)];rfl
   go_wp2_with fail
   go_ret;exact⟨by rw[E.out];rfl,y.out.trans' D⟩
 go_enter Tryz.func222,Tryz.ntmps222
 go_wp2_with fail
 rw[Y.out,V.out]
 go_loopw [3] (λT wr=>∃k:Nat,k<=x.v.length/\T = .int .i64 k/\Ext G wr/\Hid ((x.v.take k).all isV=true)) (λT _=>x.v.length-(intOf T).toNat)
 case atStart=>exact⟨0,Nat.zero_le _,rfl,Ext.refl _,af⟩
 obtain⟨k,hk,rfl,D,ac⟩:=hrel;have r:=F.out.ext D;have x1:=r.cell 1 _;have xz:=r.lt;clear r
 by_cases B:k<x.v.length
 .obtain ⟨b,ak,cs,rfl,hb,hS,hl,hr,o⟩:=(ah wr D).get k B;obtain⟨_,_,v3,rfl,ae⟩:=(qa6 ..).1 hr;have a0:=o.get 0 _;have a1:=o.get 1 _;have a2:=o.get 2 _;simp only[Nat.add_zero]at a0;obtain⟨A3,c3,rfl,_,_⟩:=ae.val;have I:=ag _ _ wr hr;have X:=Hd (anyV_take B);have U:=Hd (anyV_no B);obtain⟨bb,ad⟩:=nm (isV x.v[k]);rw[ad]at I X U;obtain⟨q1,L⟩:=nm (x.v[k].k);obtain⟨q2,M⟩:=nm (x.v[k].n);obtain⟨q3,N⟩:=nm (x.v[k].l.length);rw[L,M,N]at I;rw[L]at a0;rw[M]at a1;rw[N]at a2;have ai:k+1<=x.v.length:=B;clear o hl hS hr ae ad L M N
  go_wp2_with fail
  refine I.mono ?_;rintro e w1 ⟨rfl,O⟩
  cases bb
  .go_wp2_with fail
   go_ret;exact⟨by rw[u.out,U.out (by trivial)];rfl,y.out.trans' (D.trans' O)⟩
  go_wp2_with fail
  go_roundw
  case rel=>exact⟨k+1,ai,by go_num,D.trans' O,(by rw[X.out,ac.out];rfl:(x.v.take (k+1)).all isV=true)⟩
  simp[intOf];omega
 have E:Hid (qa0 x=true):=by
  show _=_;have:=ac.out;rw[List.take_of_length_le (by omega)]at this;rw[u.out,this]
 go_wp2_with fail
 go_ret;exact⟨by rw[E.out];rfl,y.out.trans' D⟩
theorem qpz (g:Int) (v:Value) (w:World) :
  Calls Tryz.prog 90 #[.agg #[.int .i64 g,v]] w λe f=>e = .returned (.bool (qat g))/\Ext w f:=by
 by_cases h:0<=g
 .have c:=Hd (show qat g=true from by simp[qat,h])
  go_enter Tryz.func90,Tryz.ntmps90
  go_wp2_with fail
  go_ret;exact⟨by rw[c.out];rfl,bel⟩
 have c:=Hd (show qat g=(g == -2) from by unfold qat;rw[decide_eq_false h,Bool.false_or];rfl)
 go_enter Tryz.func90,Tryz.ntmps90
 go_wp2_with fail
 go_ret;exact⟨by rw[c.out];simp,bel⟩
theorem okV_take {l:List Lb} {k:Nat} (h:k<l.length):((l.take (k+1)).all okV)=((l.take k).all okV && okV l[k]):=by
 rw[List.take_succ_eq_append_getElem h,List.all_append,List.all_cons,List.all_nil,Bool.and_true]
theorem okV_no {l:List Lb} {k:Nat} (h:k<l.length) (hf:okV l[k]=false):(l.all okV)=false:=by
 rw[List.all_eq_false];exact⟨l[k],List.getElem_mem h,by rw[hf];simp⟩
theorem right_c (S:Nat->Prop) (l:List Lb) (v:Value) (w:World) (Y:qaa S w l [v]) :
  Calls Tryz.prog 154 #[v] w λe w'=>e = .returned (.bool (l.all okV))/\Ext w w':=by
 obtain⟨A,c,rfl,hc,aa⟩:=Y.val;have HX:=Hd Y;have N:=λ(x:Lb) (cs:List Value) (wr:World) (h:RLb S wr x cs)=>qp5 S x cs wr h
 clear Y
 go_enter Tryz.func154,Tryz.ntmps154
 go_wp2_with fail
 go_loopw [3] (λvi wr=>∃k:Nat,k<=l.length/\vi = .int .i64 k/\Ext w wr/\Hid ((l.take k).all okV=true)) (λvi _=>l.length-(intOf vi).toNat)
 case atStart=>exact⟨0,Nat.zero_le _,rfl,Ext.refl _,(rfl:([]:List Lb).all okV=true)⟩
 obtain⟨k,hk,rfl,I,J⟩:=hrel
 by_cases E:k<l.length
 .obtain ⟨b,ab,cs,rfl,hb,hS,X,hr,o⟩:=(qaa.good.bel HX.out I).get k E;obtain⟨_,v3,rfl,F⟩:=id hr;obtain⟨a0,a1⟩:=g2 o;obtain⟨A3,c3,rfl,_,_⟩:=F.val;have u:=N _ _ wr hr;have z:=Hd (okV_take E);have r:=okV_no E;have f:okV l[k]=(qa0 l[k] && qat l[k].g):=rfl;have V:k+1<=l.length:=E;obtain⟨L,y⟩:=nm (l[k].g);obtain⟨q3,C⟩:=nm (l[k].v.length);rw[y,C]at u;rw[y]at a0;rw[C]at a1
  cases q:qa0 l[k]
  .have O:Hid ((l.all okV)=false):=r (by rw[f,q];rfl);rw[q]at u;clear o X hS hr F y C z r f q
   go_wp2_with fail
   refine u.mono ?_;rintro e w1 ⟨rfl,G⟩
   go_wp2_with fail
   go_ret;exact⟨by rw[O.out];rfl,I.trans' G⟩
  rw[q,y,Bool.true_and]at f;rw[q]at u;rw[f]at z r;have D:=λw=>qpz L (.slice A3 q3 c3) w
  cases B:qat L
  .have O:Hid ((l.all okV)=false):=r B;rw[B]at D;clear o X hS hr F y C z r f q B
   go_wp2_with fail
   refine u.mono ?_;rintro e w1 ⟨rfl,G⟩;have U:=G.cells
   go_wp2_with fail
   refine(D _).mono ?_;rintro e w2 ⟨rfl,T⟩
   go_wp2_with fail
   go_ret;exact⟨by rw[O.out];rfl,(I.trans' G).trans' T⟩
  rw[B]at D z;clear o X hS hr F y C r f q B
  go_wp2_with fail
  refine u.mono ?_;rintro e w1 ⟨rfl,G⟩;have U:=G.cells
  go_wp2_with fail
  refine(D _).mono ?_;rintro e w2 ⟨rfl,T⟩
  go_wp2_with fail
  go_roundw
  case rel=>exact⟨k+1,V,by go_num,(I.trans' G).trans' T,(by rw[z.out,J.out];rfl:(l.take (k+1)).all okV=true)⟩
  simp[intOf];omega
 have M:Hid ((l.all okV)=true):=by
  show _=_;have:=J.out
  rwa [List.take_of_length_le (by omega)]at this
 go_wp2_with fail
 go_ret;exact⟨by rw[M.out];rfl,I⟩
theorem qrc (S:Nat->Prop) (l:List Lb) (v:Value) (w:World) (o:qaa S w l [v]) :
  Calls Tryz.prog 84 #[v] w λe r=>e = .returned (.bool (qbk l))/\Ext w r:=by
 have f:=right_c S l v w o;obtain⟨A,c,rfl,y,q⟩:=o.val;clear o
 by_cases h:l.length<=40
 .have g:=Hd (show qbk l=l.all okV from by simp[qbk,h])
  go_enter Tryz.func84,Tryz.ntmps84
  go_wp2_with fail
  refine f.mono ?_;rintro e z ⟨rfl,u⟩
  go_wp2_with fail
  go_ret;exact⟨by rw[g.out];rfl,bel⟩
 have g:=Hd (show qbk l=false from by simp[qbk,h])
 go_enter Tryz.func84,Tryz.ntmps84
 go_wp2_with fail
 go_ret;exact⟨by rw[g.out];rfl,bel⟩
end
end Go.Proofs.YtegenalcheooeaaGreat
