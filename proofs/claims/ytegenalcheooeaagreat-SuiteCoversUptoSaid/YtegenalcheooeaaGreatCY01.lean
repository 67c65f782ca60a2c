/- Of the proof of a law of the suites: LawCovers. -/
import Derived.Test.YtegenalcheooeaaGreatAF06
import Derived.Test.YtegenalcheooeaaGreatAF07
import Derived.Test.YtegenalcheooeaaGreatAF11
import Derived.Test.YtegenalcheooeaaGreatAF12
import Derived.Test.YtegenalcheooeaaGreatAF14
import Derived.Test.YtegenalcheooeaaGreatB20
set_option linter.unusedSectionVars false
set_option linter.unusedSimpArgs false
set_option linter.unusedVariables false
namespace Go.Proofs.YtegenalcheooeaaGreat
open Go.RowKit
attribute [local go_sem] cell?_exto
set_option maxHeartbeats 16000000
set_option maxRecDepth 100000
section
open Go.Shelf
def TrueP (w:World) (e:Ending) (w':World):Prop:=e = .returned (.bool true)/\Ext w w'
theorem qgp {W i:World} {B j:Nat} {t t':TypeId} {a b c d e f g:Value} (h:qaf W B t [a,b,c]/\qaf W j t' [d,e,f,g]) (p:Ext W i) :
  (qaf i B t [a,b,c]/\qaf i j t' [d,e,f,g])/\i.cell? ⟨B,0,none⟩=some a/\i.cell? ⟨B,1,none⟩=some b/\i.cell? ⟨B,2,none⟩=some c/\B<i.heap.size/\i.cell? ⟨j,0,none⟩=some d/\i.cell? ⟨j,1,none⟩=some e/\i.cell? ⟨j,2,none⟩=some f/\i.cell? ⟨j,3,none⟩=some g/\j<i.heap.size :=
 have o:=h.1.ext p;have m:=h.2.ext p
 ⟨⟨o,m⟩,o.cell 0 _,o.cell 1 _,o.cell 2 _,o.lt,m.cell 0 _,m.cell 1 _,m.cell 2 _,m.cell 3 _,m.lt⟩
theorem bs_sl {W:World} {base:Nat} {a:List Bool} {v:Value} (h:RBs base W a v):∃A c,v = .slice A a.length c/\RSl qac 1 (λ_=>True) W a [.slice A a.length c]:=by
 obtain⟨A,c,rfl,_,_⟩:=(h.sl qac.good (by decide)).val;exact⟨A,c,rfl,(RSl.good qac.good).mono (h.sl qac.good (by decide)) λ_ _ _=>trivial⟩
theorem is_sl {W:World} {base:Nat} {T:Nat->Prop} {a:List Int} {v:Value} (h:qab qad 1 3 base T W a v):RSl qad 1 (λ_=>True) W a [v]:=(RSl.good qad.good).mono (h.sl qad.good (by decide)) λ_ _ _=>trivial
open Classical in
noncomputable def qjm (s:Sy) (ts:List Te) (ms:List Mu):List Bool:=if qal s ts=0/\∀m∈ms,qbq s m then ms.map (qgk s ts) else []
def ScP (s:Sy) (ts:List Te) (ms:List Mu) (w:World) (e:Ending) (w':World):Prop:=∃A c,e = .returned (.tuple #[.slice A (qjm s ts ms).length c,.int .i64 (qgr s ts ms)])/\RSl qac 1 (λ_=>True) w' (qjm s ts ms) [.slice A (qjm s ts ms).length c]/\Ext w w'
theorem qfh.any {s:Sy} {d:List Te} {b:List Mu} {w f:World} {e:Ending} (h:qfh s d b w e f):ScP s d b w e f:=by
 by_cases a:qal s d=0/\∀m∈b,qbq s m
 .obtain ⟨A,c,rfl,i,j⟩:=h.good a.1 a.2;have hr:qjm s d b=b.map (qgk s d):=if_pos a;have g:qgr s d b=0:=by rw[qgr,if_pos a.1,if_pos a.2]
  refine⟨A,c,by rw[hr,g,List.length_map],?_,j⟩;rw[hr,List.length_map];exact(RSl.good qac.good).mono (i.sl qac.good (by decide)) λ_ _ _=>trivial
 have hr:qjm s d b=[]:=if_neg a;refine⟨none,0,by rw[hr];exact h.err a,?_,h.ext⟩;rw[hr];exact⟨none,0,rfl,Nat.le_refl _,by decide,.inl rfl⟩
theorem qyk (w:World) (s:Sy) (bx:qfk s) (cs:List Value) (hx:RSy (λ_=>True) w s cs) (P:List Te) (vt:Value) (ht:RSl RTe 2 (λ_=>True) w P [vt]) (ms:List Mu) (vm:Value) (hm:RSl RMu 4 (λ_=>True) w ms [vm]) (m:Mu) (cm:List Value) (aI:RMu (λ_=>True) w m cm) :
  Calls Tryz.prog 12 #[.agg cs.toArray,vt,vm,.agg cm.toArray] w (TrueP w):=by
 obtain⟨_,v,u,rfl,hv,hu⟩:=id hx;obtain⟨A,c,rfl,_,_⟩:=hv.val;obtain⟨B,b,rfl,_,_⟩:=hu.val;obtain⟨At,ct,rfl,b2,bM⟩:=ht.val;obtain⟨Am,bQ,rfl,b1,bL⟩:=hm.val;have a2:=Hd aI;obtain⟨jk,je,jt,jl,rfl⟩:=id aI;have Z:=Hd hx;have HT:=Hd ht;have HM:=Hd hm;clear hx ht hv hu hm aI
 go_enter Tryz.func12,Tryz.ntmps12
 go_wp2_with fail
 refine(sane_c _).mono ?_;rintro e1 w1 ⟨rfl,h1⟩;have aC:Hid (Ext w w1):=bel;obtain⟨g,D,E,c2,G,o,q,r,y,z⟩:=qgp (B:=w.heap.size) (t:=25) (t':=94) ⟨(qaf.new w 25 [.int .i64 s.n,.slice A s.ls.length c,.slice B s.es.length b]).ext ((Ext.refl _).alloc _),qaf.new _ 94 [.int .i64 m.k,.int .i64 m.e,.int .i64 m.t,.int .i64 m.l]⟩ h1;simp only[World.size_alloc]at g o q r y z;have aL:=Hd g;clear h1 g;have bm:=brief_c P _ w1 ((RSl.good RTe.good).bel HT.out aC.out)
 go_wp2_with fail
 refine bm.mono ?_;rintro e2 w2 ⟨rfl,h2⟩;have aa:Hid (Ext w w2):=aC.out.trans' h2;clear D E c2 G o q r y z;obtain⟨g,D,E,c2,G,o,q,r,y,z⟩:=qgp aL.out h2;have aN:=Hd g;clear bm h2 g aC aL;obtain⟨bb,bl⟩:=nm (qj9 P);rw[bl];clear bl
 cases bb
 .go_wp2_with fail
  go_ret;exact⟨rfl,aa.out⟩
 have aB:=λW (f:Ext w2 W)=>small2_c (λ_=>True) 10 [s] _ _ (qlk RSy.good (by decide) (e:=25) (flat1 (RSy.good.bel Z.out (aa.out.trans' f)) rfl) (by simp))
 go_wp2_with fail
 refine(aB _ (Ext.refl _)).mono ?_;rintro e3 w3 ⟨bb,rfl,h3,ax⟩;have ai:=Hd ax;have aD:Ext w2 w3:=Ext.trans' ((Ext.refl w2).alloc _) h3;have T:Hid (Ext w w3):=aa.out.trans' aD;clear D E c2 G o q r y z ax;obtain⟨g,D,E,c2,G,o,q,r,y,z⟩:=qgp aN.out aD;have aO:=Hd g;clear aB h3 aD g aa aN
 cases bb
 .go_wp2_with fail
  go_ret;exact⟨rfl,T.out⟩
 obtain⟨ay,bI⟩:=ai.out rfl s (by simp);clear ai
 by_cases b0:(60:Int)<(ms.length:Int)
 .go_wp2_with fail
  go_ret;exact⟨rfl,T.out⟩
 have b3:ms.length<=60:=by omega
 go_upto_region 5 with (fail)
 .go_ret;exact⟨rfl,T.out⟩
 obtain⟨er,bn⟩:=nm (qal s P);obtain⟨CV,bi⟩:=nm (qec s P);obtain⟨CH,bh⟩:=nm (qdo s P);obtain⟨mE,bo⟩:=nm (mutE s m);obtain⟨R,bp⟩:=nm (mutR s m);obtain⟨sE,bv⟩:=nm (qgr s P ms);obtain⟨sR,bw⟩:=nm (qjm s P ms);have HK:=Hd (λW (f:Ext w W)=>And.intro (qvx (λ_=>True) s _ P _ W (RSy.good.bel Z.out f) ((RSl.good RTe.good).bel HT.out f)) (And.intro (rCovers_c (λ_=>True) s _ P _ W (RSy.good.bel Z.out f) ((RSl.good RTe.good).bel HT.out f)) (And.intro (qt4 (λ_=>True) s _ P _ W (RSy.good.bel Z.out f) ((RSl.good RTe.good).bel HT.out f)) (rChoose_c (λ_=>True) s _ P _ W (RSy.good.bel Z.out f) ((RSl.good RTe.good).bel HT.out f)))));have a0:=Hd (λW (f:Ext w W)=>And.intro (sMutate_c (λ_=>True) s bx ay m _ _ W (RSy.good.bel Z.out f) (RMu.good.bel a2.out f)) (rMutate_c (λ_=>True) s m _ _ W (RSy.good.bel Z.out f) (RMu.good.bel a2.out f)));have a1:=Hd (λW (f:Ext w W)=>And.intro ((Score_c s bx ay _ P _ ms _ W (RSy.good.bel Z.out f) ((RSl.good RTe.good).bel HT.out f) ((RSl.good RMu.good).bel HM.out f) (by omega)).mono λ_ _ h=>h.any) ((rScore_c s _ P _ ms _ W (RSy.good.bel Z.out f) ((RSl.good RTe.good).bel HT.out f) ((RSl.good RMu.good).bel HM.out f) (by omega)).mono λ_ _ h=>h.any));rw[bn,bi,bh]at HK;have HQ:=Hd (And.intro bo (And.intro bp (And.intro bv bw)));clear bn bi bh bo bp bv bw;have X:=(HK.out w3 T.out).1
 go_wp2_with fail
 refine X.mono ?_;rintro e4 w4 ⟨y1,y2,rfl,d,j,ab⟩;obtain⟨A4,n4,rfl,bq⟩:=bs_sl d;obtain⟨B4,k4,rfl,bs⟩:=bs_sl j;have a3:=Hd bq;have a7:=Hd bs;have bP:=Hd ab;have ba:Hid (Ext w w4):=T.out.trans' ab;clear D E c2 G o q r y z;obtain⟨g,D,E,c2,G,o,q,r,y,z⟩:=qgp aO.out ab;have aP:=Hd g;clear g aO;clear X d j bq bs ab;have X:=(HK.out w4 ba.out).2.1
 go_wp2_with fail
 refine X.mono ?_;rintro e5 w5 ⟨y1,y2,rfl,d,j,ac⟩;obtain⟨A5,n5,rfl,br⟩:=bs_sl d;obtain⟨B5,k5,rfl,bu⟩:=bs_sl j;have a4:=Hd br;have a8:=Hd bu;have aV:=Hd ac;have bc:Hid (Ext w w5):=ba.out.trans' ac;clear D E c2 G o q r y z;obtain⟨g,D,E,c2,G,o,q,r,y,z⟩:=qgp aP.out ac;have aQ:=Hd g;clear g aP;clear X d j br bu ac;have V:=(HK.out w5 bc.out).2.2.1
 go_wp2_with fail
 refine V.mono ?_;rintro e6 w6 ⟨A6,n6,rfl,d,ad⟩;have a5:=Hd (is_sl d);have Y:=Hd ad;have bd:Hid (Ext w w6):=bc.out.trans' ad;clear D E c2 G o q r y z;obtain⟨g,D,E,c2,G,o,q,r,y,z⟩:=qgp aQ.out ad;have aR:=Hd g;clear g aQ;clear V d ad;have V:=(HK.out w6 bd.out).2.2.2
 go_wp2_with fail
 refine V.mono ?_;rintro e7 w7 ⟨A7,n7,rfl,d,ae⟩;have a6:=Hd (is_sl d);have S:=Hd ae;have be:Hid (Ext w w7):=bd.out.trans' ae;clear D E c2 G o q r y z;obtain⟨g,D,E,c2,G,o,q,r,y,z⟩:=qgp aR.out ae;have aS:=Hd g;clear g aR;clear V d ae;clear HK;have H:=(a0.out w7 be.out).1;unfold qfr at H;rw[HQ.out.1,HQ.out.2.1]at H
 go_wp2_with fail
 refine H.mono ?_;rintro e8 v8 ⟨bR,rfl,L,bj⟩;obtain⟨j8,y1,y2,rfl,d,j⟩:=id L;obtain⟨A8,n8,rfl,_,_⟩:=d.val;obtain⟨B8,k8,rfl,_,_⟩:=j.val;obtain⟨w8,af⟩:=nm (v8.alloc (.cells #[.int .i64 R.n,.slice A8 R.ls.length n8,.slice B8 R.es.length k8] 25));have aE:Ext v8 w8:=by rw[<- af];exact(Ext.refl _).alloc _
 have aG:qaf w8 v8.heap.size 25 [.int .i64 R.n,.slice A8 R.ls.length n8,.slice B8 R.es.length k8]:=by rw[<- af];exact qaf.new v8 25 _
 obtain⟨p8,aJ⟩:=nm (v8.heap.size);rw[aJ]at aG;have aY:=Hd aG;have an:=Hd (RSy.good.bel L aE);have J:Hid (Ext w7 w8):=bj.trans' aE;have bf:Hid (Ext w w8):=be.out.trans' J.out;have bG:=Hd af;have bE:=Hd aJ;clear D E c2 G o q r y z;obtain⟨g,D,E,c2,G,o,q,r,y,z⟩:=qgp aS.out J.out;have aT:=Hd g;clear g aS;clear H L d j bj aE aG af aJ
 go_upto_region 10 with (fail)
 rw[bG.out,bE.out];have H:=(a0.out w8 bf.out).2;unfold qfr at H;rw[HQ.out.1,HQ.out.2.1]at H
 go_wp2_with fail
 refine H.mono ?_;rintro e9 v9 ⟨bS,rfl,L,bk⟩;obtain⟨j9,y1,y2,rfl,d,j⟩:=id L;obtain⟨A9,n9,rfl,_,_⟩:=d.val;obtain⟨B9,k9,rfl,_,_⟩:=j.val;obtain⟨w9,ag⟩:=nm (v9.alloc (.cells #[.int .i64 R.n,.slice A9 R.ls.length n9,.slice B9 R.es.length k9] 25));have aF:Ext v9 w9:=by rw[<- ag];exact(Ext.refl _).alloc _
 have aH:qaf w9 v9.heap.size 25 [.int .i64 R.n,.slice A9 R.ls.length n9,.slice B9 R.es.length k9]:=by rw[<- ag];exact qaf.new v9 25 _
 obtain⟨p9,aK⟩:=nm (v9.heap.size);rw[aK]at aH;have aZ:=Hd aH;have ao:=Hd (RSy.good.bel L aF);have C:Hid (Ext w8 w9):=bk.trans' aF;have bg:Hid (Ext w w9):=bf.out.trans' C.out;have bH:=Hd ag;have bF:=Hd aK;clear D E c2 G o q r y z;obtain⟨g,D,E,c2,G,o,q,r,y,z⟩:=qgp aT.out C.out;have aU:=Hd g;clear g aT;clear H L d j bk aF aH ag aK
 go_upto_region 11 with (fail)
 rw[bH.out,bF.out];have I:=(a1.out w9 bg.out).1;unfold ScP at I;rw[HQ.out.2.2.1,HQ.out.2.2.2]at I
 go_wp2_with fail
 refine I.mono ?_;rintro bT bA ⟨bN,b4,rfl,az,N⟩;have al:=Hd az;have i:=Hd N;have ap:Hid (Ext w bA):=bg.out.trans' N;clear D E c2 G o q r y z;obtain⟨g,D,E,c2,G,o,q,r,y,z⟩:=qgp aU.out N;have ah:=Hd g;clear g aU;clear I az N;have I:=(a1.out bA ap.out).2;unfold ScP at I;rw[HQ.out.2.2.1,HQ.out.2.2.2]at I
 go_wp2_with fail
 refine I.mono ?_;rintro bU F ⟨bO,b5,rfl,aA,O⟩;have am:=Hd aA;have a:=Hd O;have a9:Hid (Ext w F):=ap.out.trans' O;clear D E c2 G o q r y z;obtain⟨g,D,E,c2,G,o,q,r,y,z⟩:=qgp ah.out O;have aM:=Hd g;clear g ah;clear I aA O;clear D E c2 G o q r y z aM;have q4:=(RSl.good qac.good).bel a3.out (((((((aV.out.trans' Y.out).trans' S.out).trans' J.out).trans' C.out).trans' i.out).trans' a.out));have q5:=(RSl.good qac.good).bel a4.out ((((((Y.out.trans' S.out).trans' J.out).trans' C.out).trans' i.out).trans' a.out));have s4:=(RSl.good qac.good).bel a7.out (((((((aV.out.trans' Y.out).trans' S.out).trans' J.out).trans' C.out).trans' i.out).trans' a.out));have s5:=(RSl.good qac.good).bel a8.out ((((((Y.out.trans' S.out).trans' J.out).trans' C.out).trans' i.out).trans' a.out));have q6:=(RSl.good qad.good).bel a5.out (((((S.out.trans' J.out).trans' C.out).trans' i.out).trans' a.out));have q7:=(RSl.good qad.good).bel a6.out ((((J.out.trans' C.out).trans' i.out).trans' a.out));have q8:=RSy.good.bel an.out (((C.out.trans' i.out).trans' a.out));have q9:=RSy.good.bel ao.out ((i.out.trans' a.out));have g8:=aY.out.ext (((C.out.trans' i.out).trans' a.out));have g9:=aZ.out.ext ((i.out.trans' a.out));have bz:=(RSl.good qac.good).bel al.out (a.out);have k1:=qla (λ_=>True) CV.l CV.l _ _ F q4 q5;have k2:=λW (f:Ext F W)=>qla (λ_=>True) CV.e CV.e _ _ W ((RSl.good qac.good).bel s4 f) ((RSl.good qac.good).bel s5 f)
 have k3:=λW (f:Ext F W)=>qju (λ_=>True) CH CH _ _ W ((RSl.good qad.good).bel q6 f) ((RSl.good qad.good).bel q7 f)
 have k4:=λW (f:Ext F W)=>Same_c (λ_=>True) R _ _ W (RSy.good.bel q8 f) (RSy.good.bel q9 f)
 have k5:=λW (f:Ext F W)=>qla (λ_=>True) sR sR _ _ W ((RSl.good qac.good).bel bz f) ((RSl.good qac.good).bel am.out f)
 rw[decide_eq_true rfl]at k1 k2 k3 k5;have K2:=Hd k2;have K3:=Hd k3;have K4:=Hd k4;have K5:=Hd k5;have G8:=Hd g8;have G9:=Hd g9;clear q4 q5 s4 s5 q6 q7 q8 q9 g8 g9 bz k2 k3 k4 k5 a3 a4 a7 a8 a5 a6 an ao aY aZ al am
 go_wp2_with fail
 refine k1.mono ?_;rintro bV bJ ⟨rfl,U⟩;have aW:=Hd U;have k2:=K2.out bJ U;clear k1 U K2
 go_wp2_with fail
 refine k2.mono ?_;rintro bW bB ⟨rfl,aq⟩;have aj:Hid (Ext F bB):=aW.out.trans' aq;have k3:=K3.out bB aj.out;clear k2 aq K3
 go_wp2_with fail
 refine k3.mono ?_;rintro bX bC ⟨rfl,au⟩;have M:Hid (Ext F bC):=aj.out.trans' au;have k4:=K4.out bC M.out;have b8:=G8.out.ext M.out;have b9:=G9.out.ext M.out;have x0:=b8.cell 0 _;have x1:=b8.cell 1 _;have x2:=b8.cell 2 _;have xz:=b8.lt;have y0:=b9.cell 0 _;have y1:=b9.cell 1 _;have y2:=b9.cell 2 _;have yz:=b9.lt;clear k3 au K4 b8 b9
 go_wp2_with fail
 refine k4.mono ?_;rintro bY bD ⟨rfl,av⟩;have ak:Hid (Ext F bD):=M.out.trans' av;have k5:=K5.out bD ak.out;clear k4 av K5 x0 x1 x2 xz y0 y1 y2 yz
 go_wp2_with fail
 refine k5.mono ?_;rintro bZ bK ⟨rfl,aw⟩;have aX:Hid (Ext F bK):=ak.out.trans' aw;clear k5 aw
 go_wp2_with fail
 go_ret;exact⟨by simp,a9.out.trans' aX.out⟩
end
end Go.Proofs.YtegenalcheooeaaGreat
