/- Of the proof of a law of the suites: LMut2. -/
import Derived.Test.YtegenalcheooeaaGreatAF09
import Derived.Test.YtegenalcheooeaaGreatB14
set_option linter.unusedSectionVars false
set_option linter.unusedSimpArgs false
set_option linter.unusedVariables false
namespace Go.Proofs.YtegenalcheooeaaGreat
open Go.RowKit
attribute [local go_sem] cell?_exto
set_option maxHeartbeats 16000000
set_option maxRecDepth 100000
section
open Go.Shelf
theorem qo2:(Tryz.prog.info? 106).map (λi=>(i.zero,i.size,i.bytes))=some (some (.agg #[.int .i64 0,.int .i64 0,.slice none 0 0,.int .i64 0]),4,48):=by kernel_rfl
theorem qi4 {S:Nat->Prop} {W:World} {x:Lb} {v:Value} (h:RLb S W x [.int .i64 x.g,v]):I64 x.g/\qar S W x.v [v]:=by
 obtain⟨j,u,e,c⟩:=h;simp only[List.cons.injEq,and_true,true_and]at e;exact⟨j,e ▸ c⟩
theorem qsh {B:Func} {p q r:Tmp} (h:B.results = #[.cell p 25,.tmp q,.tmp r]) (c:Array Value) (w:World) (g:Nat) (x y z u v:Value) (F:c.getD p undef = .pointer (some ⟨g,0,none⟩)) (G:c.getD q undef=u) (hr:c.getD r undef=v) (C:w.cell? ⟨g,0,none⟩=some x) (D:w.cell? ⟨g,1,none⟩=some y) (E:w.cell? ⟨g,2,none⟩=some z) :
  (results B c).run Tryz.prog w = .ok (.tuple #[.agg #[x,y,z],u,v]) w:=by
 have f:c[p]?.getD undef = .pointer (some ⟨g,0,none⟩):=by simpa using F
 have o:c[q]?.getD undef=u:=by simpa using G
 have A:c[r]?.getD undef=v:=by simpa using hr
 simp[results,h,f,o,A,asAddr,go_sem,C,D,E]
def qxq (s:Sy) (m:Mu) (w:World) (e:Ending) (w':World):Prop:=∃cs,e = .returned (.tuple #[.agg cs.toArray,.bool true,.int .i64 0])/\RSy (λb=>w.heap.size<=b) w' (qde s m) cs/\Ext w w'
theorem qr4 (S:Nat->Prop) (s:Sy) (aF:qah s) (bG:qfk s) (bB:s.ls.length<=16) (m:Mu) (hm:qbq s m) (cs cm:List Value) (w:World) (hx:RSy S w s cs) (bF:RMu S w m cm) :
  Calls Tryz.prog 124 #[.agg cs.toArray,.agg cm.toArray] w (qxq s m w):=by
 have bl:RSy (λq=>q<w.heap.size) w s cs:=RSy.good.mono hx λb hb _=>hb
 have bb:=λv W h=>buildMu_c (λ_=>True) s aF bG bB m hm v W h
 obtain⟨jn,vl,ve,rfl,aJ,aI⟩:=id bl;obtain⟨Al,cl,rfl,_,_⟩:=aJ.val;obtain⟨Ae,ce,rfl,_,_⟩:=aI.val;obtain⟨jk,je,jt,jl,rfl⟩:=bF;have HL:=Hd aJ;have HE:=Hd aI;have bp:=Hd bb;have aS:=Hd aF;have HM:=Hd hm;have ca:=aF.2.2.2.1;clear hx bl aJ aI bb;obtain⟨W0,G⟩:=nm (((w.alloc (.cells #[.int .i64 s.n,.slice Al s.ls.length cl,.slice Ae s.es.length ce] 25)).alloc (.cells #[.int .i64 m.k,.int .i64 m.e,.int .i64 m.t,.int .i64 m.l] 94)).alloc (.cells #[.int .i64 0,.slice none 0 0,.slice none 0 0] 25));have a8:Ext w W0:=by rw[<- G];exact(((Ext.refl w).alloc _).alloc _).alloc _
 have bi:W0.heap.size=w.heap.size+3:=by rw[<- G];simp
 have a9:qaf W0 w.heap.size 25 [.int .i64 s.n,.slice Al s.ls.length cl,.slice Ae s.es.length ce]:=by
  rw[<- G];exact((qaf.new w _ _).ext ((Ext.refl _).alloc _)).ext ((Ext.refl _).alloc _)
 have ba:qaf W0 (w.heap.size+1) 94 [.int .i64 m.k,.int .i64 m.e,.int .i64 m.t,.int .i64 m.l]:=by rw[<- G];exact qg3 ..
 have M:qaf W0 (w.heap.size+1+1) 25 [.int .i64 0,.slice none 0 0,.slice none 0 0]:=by rw[<- G];exact qgy ..
 have aW:=Hd G;have ac:=Hd a9;have L:=Hd ba;have aq:=Hd M;have aw:=Hd a8;clear G a9 ba M a8
 go_enter Tryz.func124,Tryz.ntmps124
 go_upto_region 1 with (fail)
 rw[aW.out];obtain⟨B1,ax⟩:=nm (w.heap.size+1);rw[ax]at L aq;obtain⟨T,ay⟩:=nm (B1+1);rw[ax,ay];rw[ay]at aq;have HN:Hid (B1=w.heap.size+1/\T=w.heap.size+2/\W0.heap.size=w.heap.size+3):=⟨by omega,by omega,bi⟩
 clear aW ax ay bi;have a0:=ac.out.cell 0 _;have a1:=ac.out.cell 1 _;have a2:=ac.out.cell 2 _;have az:=ac.out.lt;have m0:=L.out.cell 0 _;have m1:=L.out.cell 1 _;have m2:=L.out.cell 2 _;have m3:=L.out.cell 3 _;have mz:=L.out.lt;have q1:=HM.out.1.1;have q2:=HM.out.1.2
 have bc:(1<=m.k/\m.k<=3)/\(0<=m.t/\m.t<s.n)/\(0<=m.l/\m.l<max (s.ls.length:Int) 1):=by
  have:=aS.out.1
  rcases HM.out.2 with⟨I,e2,e3⟩ | ⟨I,⟨e2,b7⟩,e3⟩ | ⟨I,e2,e3,b8⟩ <;> omega
 obtain⟨⟨q3,q4⟩,⟨q5,q6⟩,q7,q8⟩:=bc;have bP:¬ m.k<1:=by omega
 have bQ:¬ 3<m.k:=by omega
 have bR:¬ m.t<0:=by omega
 have bS:¬ s.n<=m.t:=by omega
 have bT:¬ m.l<0:=by omega
 have bU:¬ max (s.ls.length:Int) 1<=m.l:=by omega
 clear q3 q4 q5 q6 q7 q8
 go_cut [7] (λv7 wx=>v7 = .bool true/\wx=W0)
 case first =>
  rcases HM.out.2 with⟨I,e2,e3⟩ | ⟨I,_,e3⟩ | ⟨I,e2,_,_⟩
  .have r1:(m.k == 2)=false:=beq_eq_false_iff_ne.2 (by omega);have r2:(m.k == 3)=false:=beq_eq_false_iff_ne.2 (by omega);have r3:(m.t == 0)=true:=beq_iff_eq.2 e2;have r4:(m.l == 0)=true:=beq_iff_eq.2 e3;clear I e2 e3
   go_wp2_with fail
   go_meet
   exact⟨rfl,rfl⟩
  .have r1:(m.k == 2)=true:=beq_iff_eq.2 I;have r2:(m.k == 3)=false:=beq_eq_false_iff_ne.2 (by omega);have r4:(m.l == 0)=true:=beq_iff_eq.2 e3;clear I e3
   go_wp2_with fail
   go_meet
   exact⟨rfl,rfl⟩
  have r1:(m.k == 2)=false:=beq_eq_false_iff_ne.2 (by omega);have r2:(m.k == 3)=true:=beq_iff_eq.2 I;have r3:(m.t == 0)=true:=beq_iff_eq.2 e2;clear I e2
  go_wp2_with fail
  go_meet
  exact⟨rfl,rfl⟩
 rename World=>Wx
 obtain⟨rfl,bH⟩:=hcut;subst bH
 go_upto_region 2 with (fail)
 go_cut [82] (λbV wx=>bV = .bool false/\wx=Wx)
 case first =>
  go_wp2_with fail
  go_meet
  exact⟨rfl,rfl⟩
 rename World=>Wy
 obtain⟨rfl,bI⟩:=hcut;subst bI;clear bP bQ bR bS bT bU
 go_wp2_with fail
 go_loopw [8,87] (λv8 bW wr=>∃(k:Nat) (Ao:Option Addr) (co:Nat),k<=s.es.length/\bW = .int .i64 k/\v8 = .slice Ao (muP s m k).length co/\Ext Wy wr/\Hid (qab RAr 4 106 Wy.heap.size (λq=>q<w.heap.size) wr (muP s m k) (.slice Ao (muP s m k).length co))) (λ_ v _=>s.es.length-(intOf v).toNat)
 case atStart=>exact⟨0,none,0,Nat.zero_le _,rfl,rfl,Ext.refl _,qab.nil ..⟩
 obtain⟨k,Ao,co,hk,rfl,rfl,hE,hO⟩:=hrel;have ae:=Hd hE;have aX:=Ext.keep hE a1;have aN:=Ext.keep hE m0;have aO:=Ext.keep hE m1;have aP:=Ext.keep hE m2;have aQ:=Ext.keep hE m3;have cd:=hE.size
 by_cases aD:k<s.es.length
 .have hX:=aw.out.trans' hE;have bd:=qjs aS.out k aD;obtain⟨b,ch,b1,rfl,hb,bD,hl,hr,A⟩:=(qa3.good.bel HE.out hX).get k aD;obtain⟨jf,aM,aj,rfl⟩:=id hr;have d0:=A.get 0 _;have d1:=A.get 1 _;have d2:=A.get 2 _;simp only[Nat.add_zero]at d0;have ah:=qeo aD;obtain⟨⟨f,l,t⟩,bm⟩:∃x,s.es[k]=x:=⟨_,rfl⟩
  rw[bm]at d0 d1 d2 ah jf aM aj;rw[ah]at bd;simp only at d0 d1 d2 bd jf aM aj;obtain⟨E,rfl⟩:∃E:Nat,l=(E:Int):=⟨l.toNat,by omega⟩
  have be:E<s.ls.length:=by omega
  obtain⟨b2,ab,b4,rfl,M,a7,bE,O,C⟩:=(qaa.good.bel HL.out hX).get E be;obtain⟨jg,vx,rfl,aK⟩:=id O;obtain⟨Ax,cx,rfl,_,_⟩:=aK.val;have e0:=C.get 0 _;have I:=C.get 1 _;simp only[Nat.add_zero]at e0;have aG:=qkl s m k;rw[ah]at aG;have V:=Hd aG;have av:=Hd O;have HJ:Hid (I64 f/\I64 t):=⟨jf,aj⟩
  have au:=Hd (qfd s.ls E be);obtain⟨x,hx⟩:=nm (s.ls[E]);rw[hx]at e0 I av au aK;have bJ:=qjp s m k;obtain⟨ys,bn⟩:=nm (muP s m k);rw[bn]at hO V bJ ⊢;clear A C hl bE bD a7 hr O hx bm ah aG jf aM aj hE a1 m0 m1 m2 m3 a2 bn
  go_wp2_with fail
  have ak:=Lib.cell?_alloc_some (.cells #[.int .i64 f,.int .i64 (E:Int),.int .i64 t] 88) aX;have al:=Lib.cell?_alloc_some (.cells #[.int .i64 f,.int .i64 (E:Int),.int .i64 t] 88) e0;have am:=Lib.cell?_alloc_some (.cells #[.int .i64 f,.int .i64 (E:Int),.int .i64 t] 88) I;refine qek (λW=>W.cell? ⟨w.heap.size,1,none⟩=some (.slice (some ⟨b2,ab,none⟩) s.ls.length cl)/\W.cell? ⟨wr.heap.size,0,none⟩=some (.int .i64 f)/\W.cell? ⟨wr.heap.size,1,none⟩=some (.int .i64 (E:Int))/\W.cell? ⟨wr.heap.size,2,none⟩=some (.int .i64 t)/\W.cell? ⟨b2,ab+E*2,none⟩=some (.int .i64 x.g)/\W.cell? ⟨b2,ab+E*2+1,none⟩=some (.slice Ax x.v.length cx)) (by kernel_rfl) (by rfl) (by kernel_rfl) ⟨ak,by go_simp,by go_simp,by go_simp,al,am⟩ (λhHeld=>?_);dsimp only[List.dropLast,List.getLastD,List.getLast?,List.getLast];obtain⟨Wd,aB⟩:=nm ((wr.alloc (.cells #[.int .i64 f,.int .i64 (E:Int),.int .i64 t] 88)).drew);have aC:Ext wr Wd:=aB ▸ Below.drew ((Ext.refl _).alloc _);rw[aB]at hHeld ⊢;clear aB ak al am
  (refine tk 0 ?_;try simp only[qae])
  (refine tk 1 ?_;try simp only[qae])
  (refine tk 2 ?_;try simp only[qae])
  (refine tk 3 ?_;try simp only[qae])
  (refine tk 4 ?_;try simp only[qae])
  (refine tk 5 ?_;try simp only[qae])
  (refine tk 6 ?_;try simp only[qae])
  (refine tk 7 ?_;try simp only[qae])
  (refine tk 8 ?_;try simp only[qae])
  (refine tk 9 ?_;try simp only[qae])
  (refine tk 10 ?_;try simp only[qae])
  refine wpAnyH_ready (rs:=[11]) (by kernel_rfl) (by simp) ?_;refine AllReadyH.cons rfl (λK hK=>?_) AllReadyH.nil;go_simp;have J:=Ext.k6 ((Ext.refl Wd).alloc (.cells #[.int .i64 0,.int .i64 0,.slice none 0 0,.int .i64 0] 106)) hHeld;refine hK.out _ _ J (λ_=>?_);clear hK K
  try simp only[qae]
  refine wpAnyH_done (by kernel_rfl) ?_ _;show Oper.wp _ _ _ _ _ _;go_simp;obtain⟨U,af⟩:=nm (Wd.heap.size);obtain⟨Wa,ag⟩:=nm (Wd.alloc (.cells #[.int .i64 f,.int .i64 x.g,.slice Ax x.v.length cx,.int .i64 t] 106));have o:qaf Wa U 106 [.int .i64 f,.int .i64 x.g,.slice Ax x.v.length cx,.int .i64 t]:=by rw[<- ag,<- af];exact qaf.new Wd _ _
  have c:Ext wr Wa:=by rw[<- ag];exact aC.alloc _
  have Y:wr.heap.size<=U:=by rw[<- af];exact aC.size
  rw[ag,af];have bK:=Ext.keep c aN;have bL:=Ext.keep c aO;have bM:=Ext.keep c aP;have bN:=Ext.keep c aQ;have bv:=Ext.keep c aX;have aY:=o.cell 0 _;have aZ:=o.cell 1 _;have a3:=o.cell 2 _;have a4:=o.cell 3 _;have a5:=o.lt;have bx:=o.frozen 1;have bz:=o.frozen 2;have bA:=o.frozen 3;have bO:B1<Wa.heap.size:=by have:=c.size;omega
  have bw:w.heap.size<Wa.heap.size:=by have:=c.size;omega
  have ad:=Hd o;have F:=Hd c;have aU:=Hd (RLb.good.bel av.out c);have bY:Hid ((m.e == (k:Int))=((k:Int) == m.e)):=by show _=_;rw[Bool.eq_iff_iff,beq_iff_eq,beq_iff_eq];exact eq_comm
  clear hHeld J aC ag af o c aN aO aP aQ aK e0 I
  go_upto_if 106 with (fail)
  go_cut [] (λwx=>∃(a:Ar) (va:Value),Hid (qc4 s m k ⟨f,(E:Int),t⟩=[a]/\Ext wr wx/\qaf wx U 106 [.int .i64 a.f,.int .i64 a.l.g,va,.int .i64 a.t]/\RAr (λq=>q<w.heap.size) wx a [.int .i64 a.f,.int .i64 a.l.g,va,.int .i64 a.t]))
  case first =>
   by_cases he:(k:Int)=m.e
   .have r0:((k:Int) == m.e)=true:=beq_iff_eq.2 he
    rcases HM.out.2 with⟨g1,g2,g3⟩ | ⟨g1,g2,g3⟩ | ⟨g1,g2,g3⟩
    .have r1:(m.k == 1)=true:=beq_iff_eq.2 g1;have an:Hid (qc4 s m k ⟨f,(E:Int),t⟩=[]):=by show _=_;rw[qc4,if_pos he,if_pos g1]
     clear he g1 g2 g3
     go_wp2_with fail
     refine⟨⟨k+1,Ao,co,by omega,by go_num,by rw[V.out,an.out,List.append_nil],ae.out.trans' F.out,?_⟩,by simp[intOf];omega⟩;show qab _ _ _ _ _ _ _ _;rw[V.out,an.out,List.append_nil];exact hO.out.ext RAr.good F.out
    .have r1:(m.k == 1)=false:=beq_eq_false_iff_ne.2 (by omega);have r2:(m.k == 2)=true:=beq_iff_eq.2 g1;have r:Hid (qc4 s m k ⟨f,(E:Int),t⟩=[⟨f,x,m.t⟩]):=by show _=_;rw[qc4,if_pos he,if_neg (by omega),if_pos g1];show[Ar.mk f (qbg s.ls (E:Int)) m.t]=_;rw[au.out]
     clear he g1 g2 g3
     go_wp2_with fail
     go_meet
     have aa:Ext wr (Wa.setCell ⟨U,3,none⟩ (.int .i64 m.t)):=Ext.set (p:=⟨U,3,none⟩) F.out Y _;exact⟨⟨f,x,m.t⟩,_,r.out,aa,ad.out.set 3 _,HJ.out.1,jt,_,rfl,qi4 (RLb.good.bel av.out aa)⟩
    have r1:(m.k == 1)=false:=beq_eq_false_iff_ne.2 (by omega);have r2:(m.k == 2)=false:=beq_eq_false_iff_ne.2 (by omega);have r3:(m.k == 3)=true:=beq_iff_eq.2 g1;have bg:m.l.toNat<s.ls.length:=by omega
    obtain⟨b3,bX,b5,X,b9,_,_,ai,D⟩:=(qaa.good.bel HL.out (aw.out.trans' ae.out)).get m.l.toNat bg;injection X with X
    injection X with X eo3
    subst X eo3;obtain⟨cg,ci,rfl,ao⟩:=id ai;obtain⟨A3,c3,rfl,_,_⟩:=ao.val;have p0:=Ext.keep F.out (D.get 0 _);have p1:=Ext.keep F.out (D.get 1 _);simp only[Nat.add_zero]at p0;have bf:qbg s.ls m.l=s.ls[m.l.toNat]:=by simp[qbg,bg]
    have r:Hid (qc4 s m k ⟨f,(E:Int),t⟩=[⟨f,s.ls[m.l.toNat],t⟩]):=by show _=_;rw[qc4,if_pos he,if_neg (by omega),if_neg (by omega)];show[Ar.mk f (qbg s.ls m.l) t]=_;rw[bf]
    obtain⟨y,hy⟩:=nm (s.ls[m.l.toNat]);rw[hy]at p0 p1 r ai;have br:=Hd ai;have cb:0<=m.l:=g3.1;have cc:m.l<(s.ls.length:Int):=g3.2;clear he g1 g2 g3 D ai ao bf hy
    go_wp2_with fail
    go_meet
    have aa:Ext wr ((Wa.setCell ⟨U,1,none⟩ (.int .i64 y.g)).setCell ⟨U,2,none⟩ (.slice A3 y.v.length c3)):=Ext.set (p:=⟨U,2,none⟩) (Ext.set (p:=⟨U,1,none⟩) F.out Y _) Y _;exact⟨⟨f,y,t⟩,_,r.out,aa,(ad.out.set 1 _).set 2 _,HJ.out.1,HJ.out.2,_,rfl,qi4 (RLb.good.bel br.out aa)⟩
   have r0:((k:Int) == m.e)=false:=beq_eq_false_iff_ne.2 he;have r:qc4 s m k ⟨f,(E:Int),t⟩=[⟨f,x,t⟩]:=by rw[qc4,if_neg he,qfy,au.out]
   clear he
   go_wp2_with fail
   go_meet
   exact⟨⟨f,x,t⟩,_,r,F.out,ad.out,HJ.out.1,HJ.out.2,_,rfl,qi4 aU.out⟩
  rename World=>Wc
  obtain⟨a,va,hh⟩:=hcut;have HA:=Hd hh.out.1;have ar:=Hd hh.out.2.1;have N:=hh.out.2.2.1;have aT:=Hd hh.out.2.2.2;clear hh;clear aY aZ a3 a4 a5 bx bz bA bK bL bM bN bv bO bw ad F aU;have aY:=N.cell 0 _;have aZ:=N.cell 1 _;have a3:=N.cell 2 _;have a4:=N.cell 3 _;have a5:=N.lt;have a6:=hO.out.ext RAr.good ar.out;have aE:=λq hq=>hO.out.own_lt (b:=q) hq
  obtain⟨g2,c2,w2,O,bh,M,_,_⟩:=qcw RAr.good (by decide) Wy.heap.size 106 177 (.agg #[.int .i64 0,.int .i64 0,.slice none 0 0,.int .i64 0]) 48 Tryz.underlying177 qo2 rfl (by decide) (λq=>q<w.heap.size) Wc ys (.slice Ao ys.length co) a _ a6 (RAr.good.mono aT.out λq _ hq=>⟨hq,λe=>by have:=(aE q e).1;have:=HN.out;omega⟩) (by have:=ar.out.size;omega) (by omega);have bq:=Hd bh;have bt:Hid (Ext Wy w2):=Bt.new (ae.out.trans' ar.out) M λq _ h=>(aE q h).1
  clear N a6 bh M hO aE aT
  go_wp2_with (at_builtin;refine wpList_append_run rfl _ _ _ rfl _ _ _ rfl rfl O ?_;clear O)
  go_roundw
  case rel=>exact⟨k+1,some ⟨g2,0,none⟩,c2,by omega,by go_num,by rw[V.out,HA.out];simp,bt.out,(by have h:=bq.out;show qab _ _ _ _ _ _ _ _;rw[V.out,HA.out];simpa using h)⟩
  simp[intOf];omega
 obtain rfl:k=s.es.length:=by omega
 have hb:=bp.out _ wr ((RSl.good RAr.good).mono (hO.out.sl RAr.good (by decide)) λ_ _ _=>trivial);have bZ:=Ext.keep hE a0;have b0:w.heap.size<wr.heap.size:=by omega
 have aR:=Hd (aq.out.ext hE);clear aN aO aP aQ hO
 go_wp2_with fail
 refine hb.mono ?_;rintro e w5 ⟨b6,rfl,aH,aL⟩;obtain⟨j5,v1,v2,rfl,bj,bk⟩:=id aH;obtain⟨A5,c5,rfl,_,_⟩:=bj.val;obtain⟨A6,c6,rfl,_,_⟩:=bk.val;have u:=aR.out.ext aL;have r0:=u.cell 0 _;have r1:=u.cell 1 _;have r2:=u.cell 2 _;have rz:=u.lt;have f0:=u.frozen 0;have f1:=u.frozen 1;have f2:=u.frozen 2;have bo:=Hd u;have aV:=Hd aH;have bu:=Hd (ae.out.trans' aL);obtain⟨z,hz⟩:=nm (qcv s.n (qdl s m));rw[hz]at aV ⊢;have HZ:=Hd hz;clear hb aH aL bj bk u hz
 go_wp2_with fail
 have bC:=((bo.out.set 0 (.int .i64 z.n)).set 1 (.slice A5 z.ls.length c5)).set 2 (.slice A6 z.es.length c6)
 have ap:Bt (λq=>q=T) w5 (((w5.setCell ⟨T,0,none⟩ (.int .i64 z.n)).setCell ⟨T,1,none⟩ (.slice A5 z.ls.length c5)).setCell ⟨T,2,none⟩ (.slice A6 z.es.length c6)) :=
  Bt.set (Z:=λq=>q=T) (p:=⟨T,2,none⟩) (Bt.set (Z:=λq=>q=T) (p:=⟨T,1,none⟩) (Bt.set (Z:=λq=>q=T) (p:=⟨T,0,none⟩) (Bt.refl _ _) (.inr rfl) _) (.inr rfl) _) (.inr rfl) _
 have aA:=bC.ext ((Ext.refl _).alloc (.cells #[.int .i64 z.n,.slice A5 z.ls.length c5,.slice A6 z.es.length c6] 25));refine bodyPost_ret (qsh rfl _ _ T _ _ _ (.bool true) (.int .i64 0) rfl rfl rfl (aA.cell 0 _) (aA.cell 1 _) (aA.cell 2 _)) rfl ⟨[.int .i64 z.n,.slice A5 z.ls.length c5,.slice A6 z.es.length c6],rfl,?_,(Bt.new (aw.out.trans' bu.out) ap λq _ h=>by have:=HN.out;omega).alloc _⟩;rw[show qde s m=z from HZ.out];refine RSy.good.mono (RSy.good.bel (RSy.good.move aV.out (ap.kp λq _ h h'=>by have:=HN.out;omega)) ((Ext.refl _).alloc _)) λb _ h=>?_
 have:=HN.out;omega
end
end Go.Proofs.YtegenalcheooeaaGreat
