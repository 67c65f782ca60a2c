/- Of the proof of a law of the suites: LawSane2. -/
import Derived.Test.YtegenalcheooeaaGreatB19
set_option linter.unusedSectionVars false
set_option linter.unusedSimpArgs false
set_option linter.unusedVariables false
namespace Go.Proofs.YtegenalcheooeaaGreat
open Go.RowKit
attribute [local go_sem] cell?_exto
set_option maxHeartbeats 16000000
set_option maxRecDepth 100000
section
open Go.Shelf
def SanePost (w:World) (e:Ending) (w':World):Prop:=e = .returned (.bool true)/\Ext w w'
theorem sane_c (w:World):Calls Tryz.prog 14 #[] w (SanePost w):=by
 have ed:sy4.n=2:=rfl;have eb:sy4.ls.length=3:=rfl;have d9:sy4.es.length=3:=rfl;have ee:sy5.n=3:=rfl;have ec:sy5.ls.length=3:=rfl;have ea:sy5.es.length=4:=rfl
 go_enter Tryz.func14,Tryz.ntmps14
 go_wp2_with fail
 refine(at_c 0 _).mono ?_;rintro e w1 ⟨rfl,h1⟩
 go_wp2_with fail
 refine(at_c 1 _).mono ?_;rintro e w2 ⟨rfl,h2⟩
 go_wp2_with fail
 refine(at_c 2 _).mono ?_;rintro e w3 ⟨rfl,h3⟩
 go_wp2_with fail
 obtain⟨W4,cX,q1,q2,q3,cY,aR⟩:=alloc3 w3 (.cells #[.int .i64 0,.slice none 0 0] 61) (.cells #[.int .i64 1,.slice none 0 0] 61) (.cells #[.int .i64 2,.slice none 0 0] 61);rw[cX];clear cX;have c9:Ext w W4:=Ext.trans' (by exact bel) cY;obtain⟨b3,cg⟩:=nm (w3.heap.size+1+1);obtain⟨b2,ce⟩:=nm (w3.heap.size+1);obtain⟨b1,cd⟩:=nm (w3.heap.size);rw[cg,ce,cd];rw[cg]at q3;rw[ce]at q2;rw[cd]at q1;have Q1:Hid (qaf W4 b1 61 [.int .i64 0,.slice none 0 0]):=q1;have Q2:Hid (qaf W4 b2 61 [.int .i64 1,.slice none 0 0]):=q2;have Q3:Hid (qaf W4 b3 61 [.int .i64 2,.slice none 0 0]):=q3;clear q1 q2 q3 cd ce cg aR cY h1 h2 h3;refine(qi9 0 0 1 _).mono ?_;rintro e w5 ⟨rfl,h5⟩
 go_wp2_with fail
 refine(qi9 1 1 0 _).mono ?_;rintro e w6 ⟨rfl,h6⟩
 go_wp2_with fail
 refine(qi9 1 2 0 _).mono ?_;rintro e w7 ⟨rfl,h7⟩
 go_wp2_with fail
 refine(built4 (λ_=>True) _ _ (lit4 (qca w7 _))).mono ?_;rintro e w8 ⟨d7,rfl,aR,h8⟩;obtain⟨j1,v4,u4,rfl,c6,c0⟩:=id aR;obtain⟨A4,c4,rfl,_,_⟩:=c6.val;obtain⟨B4,d4,rfl,_,_⟩:=c0.val;have cZ:Ext W4 w8:=bel;have cr:Hid (RSy (λ_=>True) w8 sy4 [.int .i64 2,.slice A4 3 c4,.slice B4 3 d4]):=RSy.good.mono aR λ_ _ _=>trivial
 have aJ:=Hd cZ;clear h5 h6 h7 h8 aR c6 c0 cZ
 go_wp2_with fail
 obtain⟨b4,ch⟩:=nm (w8.heap.size);obtain⟨W9,bd⟩:=nm (w8.alloc (.cells #[.int .i64 2,.slice A4 3 c4,.slice B4 3 d4] 25));have Q4:Hid (qaf W9 b4 25 [.int .i64 2,.slice A4 3 c4,.slice B4 3 d4]):=by show W9.heap[_]? = _;rw[<- bd,<- ch];exact qca _ _
 have aK:Hid (Ext w8 W9):=by rw[<- bd];exact(Ext.refl w8).alloc _
 rw[bd,ch];clear bd ch;refine(qi9 0 0 1 _).mono ?_;rintro e ef ⟨rfl,dG⟩
 go_wp2_with fail
 refine(qi9 0 0 2 _).mono ?_;rintro e eg ⟨rfl,dH⟩
 go_wp2_with fail
 refine(qi9 1 1 0 _).mono ?_;rintro e eh ⟨rfl,dI⟩
 go_wp2_with fail
 refine(qi9 2 2 0 _).mono ?_;rintro e dR ⟨rfl,dJ⟩
 go_wp2_with fail
 refine(built5 (λ_=>True) _ _ (lit5 (qca dR _))).mono ?_;rintro e aI ⟨d8,rfl,ck,dK⟩;obtain⟨j2,v5,u5,rfl,c8,c1⟩:=id ck;obtain⟨A5,c5,rfl,_,_⟩:=c8.val;obtain⟨B5,d5,rfl,_,_⟩:=c1.val;have bE:Ext W9 aI:=bel;have ct:Hid (RSy (λ_=>True) aI sy5 [.int .i64 3,.slice A5 3 c5,.slice B5 4 d5]):=RSy.good.mono ck λ_ _ _=>trivial
 have aA:=Hd bE;clear dG dH dI dJ dK ck c8 c1 bE;have cF:=Ext.keep aA.out (Ext.keep aK.out (Ext.keep aJ.out (Q1.out.cell 0 _)));have dz:=Ext.keep aA.out (Ext.keep aK.out (Ext.keep aJ.out (Q1.out.cell 1 _)));have l1:=World.block_lt_of_cell? aI _ cF
 go_wp2_with fail
 obtain⟨bT,bD,q5,q6,aE,_⟩:=qnb aI (.cells #[.int .i64 3,.slice A5 3 c5,.slice B5 4 d5] 25) (.cells #[.int .i64 0,.slice none 0 0] 61);rw[bD];clear bD cF dz l1;obtain⟨b6,cj⟩:=nm (aI.heap.size+1);obtain⟨b5,ci⟩:=nm (aI.heap.size);rw[cj,ci];rw[cj]at q6;rw[ci]at q5
 have hI:SanI b1 b2 b3 b4 b5 (.slice A4 3 c4) (.slice B4 3 d4) (.slice A5 3 c5) (.slice B5 4 d5) (.slice (some ⟨b6,0,none⟩) 1 1) bT:=by
  have e1:=aA.out.trans' aE;have e2:=aK.out.trans' e1;have e3:=aJ.out.trans' e2;exact⟨Q1.out.ext e3,Q2.out.ext e3,Q3.out.ext e3,Q4.out.ext e1,q5,RSy.good.bel cr.out e2,RSy.good.bel ct.out aE,qeh [0] (by decide) (by decide) q6⟩
 have m:Ext w bT:=c9.trans' (aJ.out.trans' (aK.out.trans' (aA.out.trans' aE)));clear q5 q6 ci cj c9 aE Q1 Q2 Q3 Q4 cr ct aJ aK aA;have E:=After_c (λ_=>True) sy5 _ [lbg 0] _ bT hI.s5 hI.l6;rw[v1.1,v1.2]at E;refine E.mono ?_;rintro e dh ⟨A7,c7,rfl,r7,cM⟩;have R7:=Hd (ints_of r7);have am:=hI.ext cM;clear E r7 hI;have F:=am.x1.cell 0 _;have G:=am.x1.cell 1 _;have I:=am.x2.cell 0 _;have J:=am.x2.cell 1 _;have L:=am.x3.cell 0 _;have M:=am.x3.cell 1 _;have N:=am.x4.cell 0 _;have O:=am.x4.cell 1 _;have U:=am.x4.cell 2 _;have V:=am.x5.cell 0 _;have X:=am.x5.cell 1 _;have Y:=am.x5.cell 2 _;have z1:=am.x1.lt;have z2:=am.x2.lt;have z3:=am.x3.lt;have z4:=am.x4.lt;have z5:=am.x5.lt
 go_wp2_with fail
 clear F G I J L M N O U V X Y z1 z2 z3 z4 z5;have cN:=(Ext.refl dh).alloc (.cells #[.int .i64 1,.slice none 0 0] 61);have a3:=am.ext cN;have E:=qu6 (λ_=>True) sy5 _ [lbg 0] [lbg 1] _ _ _ a3.s5 a3.l6 (qeh [1] (by decide) (by decide) (qca dh _));rw[v2.1,v2.2]at E;refine E.mono ?_;rintro e di ⟨rfl,cO⟩;have an:=a3.ext cO;clear E am a3;have F:=an.x1.cell 0 _;have G:=an.x1.cell 1 _;have I:=an.x2.cell 0 _;have J:=an.x2.cell 1 _;have L:=an.x3.cell 0 _;have M:=an.x3.cell 1 _;have N:=an.x4.cell 0 _;have O:=an.x4.cell 1 _;have U:=an.x4.cell 2 _;have V:=an.x5.cell 0 _;have X:=an.x5.cell 1 _;have Y:=an.x5.cell 2 _;have z1:=an.x1.lt;have z2:=an.x2.lt;have z3:=an.x3.lt;have z4:=an.x4.lt;have z5:=an.x5.lt
 go_wp2_with fail
 clear F G I J L M N O U V X Y z1 z2 z3 z4 z5;have cP:=(Ext.refl di).alloc (.cells #[.int .i64 1,.slice none 0 0,.int .i64 2,.slice none 0 0] 61);have a4:=an.ext cP;have E:=qu6 (λ_=>True) sy5 _ [lbg 0] [lbg 1,lbg 2] _ _ _ a4.s5 a4.l6 (qeh [1,2] (by decide) (by decide) (qca di _));rw[v3.1,v3.2]at E;refine E.mono ?_;rintro e dj ⟨rfl,cQ⟩;have cx:=a4.ext cQ;clear E an a4
 go_wp2_with fail
 have E:=qju (λ_=>True) [1,2] [1,2] _ _ _ ((RSl.good qad.good).bel R7.out bel) (qkw [1,2] (by decide) (by decide) (qca dj _));rw[show decide (([1,2]:List Int)=[1,2])=true by decide]at E;refine E.mono ?_;rintro e cm ⟨rfl,dL⟩;have bJ:Ext dj cm:=bel;have ag:=cx.ext bJ;have bi:Hid (Ext w cm):=bel;clear E cx cM cN cO cP cQ dL bJ m R7;have F:=ag.x1.cell 0 _;have G:=ag.x1.cell 1 _;have I:=ag.x2.cell 0 _;have J:=ag.x2.cell 1 _;have L:=ag.x3.cell 0 _;have M:=ag.x3.cell 1 _;have N:=ag.x4.cell 0 _;have O:=ag.x4.cell 1 _;have U:=ag.x4.cell 2 _;have V:=ag.x5.cell 0 _;have X:=ag.x5.cell 1 _;have Y:=ag.x5.cell 2 _;have z1:=ag.x1.lt;have z2:=ag.x2.lt;have z3:=ag.x3.lt;have z4:=ag.x4.lt;have z5:=ag.x5.lt
 go_wp2_with fail
 clear F G I J L M N O U V X Y z1 z2 z3 z4 z5;have E:=Musts_c (λ_=>True) sy4 sm4 _ [lbg 0] _ cm ag.s4 ag.l6;rw[v4.1,v4.2]at E;refine E.mono ?_;rintro e dk ⟨dp,dA,rfl,db,b8⟩;have cz:Hid (RSl qaa 1 (λ_=>True) dk [[lbg 1],[lbg 2]] [.slice dp 2 dA]):=(RSl.good qaa.good).mono (db.sl qaa.good (by decide)) λ_ _ _=>trivial
 have ah:=ag.ext b8;clear E db ag;have F:=ah.x1.cell 0 _;have G:=ah.x1.cell 1 _;have I:=ah.x2.cell 0 _;have J:=ah.x2.cell 1 _;have L:=ah.x3.cell 0 _;have M:=ah.x3.cell 1 _;have N:=ah.x4.cell 0 _;have O:=ah.x4.cell 1 _;have U:=ah.x4.cell 2 _;have V:=ah.x5.cell 0 _;have X:=ah.x5.cell 1 _;have Y:=ah.x5.cell 2 _;have z1:=ah.x1.lt;have z2:=ah.x2.lt;have z3:=ah.x3.lt;have z4:=ah.x4.lt;have z5:=ah.x5.lt
 go_wp2_with fail
 clear F G I J L M N O U V X Y z1 z2 z3 z4 z5;have E:=Musts_c (λ_=>True) sy5 sm5 _ [lbg 0] _ dk ah.s5 ah.l6;rw[v5.1,v5.2]at E;refine E.mono ?_;rintro e be ⟨dq,dB,rfl,dc,b9⟩;have cA:Hid (RSl qaa 1 (λ_=>True) be [[lbg 1,lbg 2]] [.slice dq 1 dB]):=(RSl.good qaa.good).mono (dc.sl qaa.good (by decide)) λ_ _ _=>trivial
 have ao:=ah.ext b9;clear E dc ah;have F:=ao.x1.cell 0 _;have G:=ao.x1.cell 1 _;have I:=ao.x2.cell 0 _;have J:=ao.x2.cell 1 _;have L:=ao.x3.cell 0 _;have M:=ao.x3.cell 1 _;have N:=ao.x4.cell 0 _;have O:=ao.x4.cell 1 _;have U:=ao.x4.cell 2 _;have V:=ao.x5.cell 0 _;have X:=ao.x5.cell 1 _;have Y:=ao.x5.cell 2 _;have z1:=ao.x1.lt;have z2:=ao.x2.lt;have z3:=ao.x3.lt;have z4:=ao.x4.lt;have z5:=ao.x5.lt
 go_wp2_with fail
 clear F G I J L M N O U V X Y z1 z2 z3 z4 z5;have la:=qaa.good.bel (qeh [1] (by decide) (by decide) (qca be (.cells (lbCs [1]).toArray 61))) ((Ext.refl _).alloc (.cells (lbCs [2]).toArray 61));have lb:=qeh [2] (by decide) (by decide) (qca (be.alloc (.cells (lbCs [1]).toArray 61)) (.cells (lbCs [2]).toArray 61));have ll:=qlk qaa.good (by decide) (e:=22) (qkn la rfl (flat1 lb rfl)) (by decide);have E:=qvi (λ_=>True) [[lbg 1],[lbg 2]] [[lbg 1],[lbg 2]] _ _ _ ((RSl.good qaa.good).bel cz.out bel) ll;rw[show sameSs [[lbg 1],[lbg 2]] [[lbg 1],[lbg 2]]=true by decide +kernel]at E;simp only[World.size_alloc]at E;refine E.mono ?_;rintro e cn ⟨rfl,cR⟩;have aS:Ext be cn:=Ext.trans' (by exact bel) cR.ext;have ap:=ao.ext aS;clear E la lb ll cR ao;have F:=ap.x1.cell 0 _;have G:=ap.x1.cell 1 _;have I:=ap.x2.cell 0 _;have J:=ap.x2.cell 1 _;have L:=ap.x3.cell 0 _;have M:=ap.x3.cell 1 _;have N:=ap.x4.cell 0 _;have O:=ap.x4.cell 1 _;have U:=ap.x4.cell 2 _;have V:=ap.x5.cell 0 _;have X:=ap.x5.cell 1 _;have Y:=ap.x5.cell 2 _;have z1:=ap.x1.lt;have z2:=ap.x2.lt;have z3:=ap.x3.lt;have z4:=ap.x4.lt;have z5:=ap.x5.lt
 go_wp2_with fail
 clear F G I J L M N O U V X Y z1 z2 z3 z4 z5;have la:=qeh [1,2] (by decide) (by decide) (qca cn (.cells (lbCs [1,2]).toArray 61));have ll:=qlk qaa.good (by decide) (e:=22) (flat1 la rfl) (by decide);have E:=qvi (λ_=>True) [[lbg 1,lbg 2]] [[lbg 1,lbg 2]] _ _ _ ((RSl.good qaa.good).bel cA.out bel) ll;rw[show sameSs [[lbg 1,lbg 2]] [[lbg 1,lbg 2]]=true by decide +kernel]at E;simp only[World.size_alloc]at E;refine E.mono ?_;rintro e co ⟨rfl,cS⟩;have aT:Ext cn co:=Ext.trans' (by exact bel) cS.ext;have ak:=ap.ext aT;have bj:Hid (Ext w co):=bi.out.trans' (b8.trans' (b9.trans' (aS.trans' aT)));clear E la ll b8 b9 aS cS aT ap cz cA bi;have F:=ak.x1.cell 0 _;have G:=ak.x1.cell 1 _;have I:=ak.x2.cell 0 _;have J:=ak.x2.cell 1 _;have L:=ak.x3.cell 0 _;have M:=ak.x3.cell 1 _;have N:=ak.x4.cell 0 _;have O:=ak.x4.cell 1 _;have U:=ak.x4.cell 2 _;have V:=ak.x5.cell 0 _;have X:=ak.x5.cell 1 _;have Y:=ak.x5.cell 2 _;have z1:=ak.x1.lt;have z2:=ak.x2.lt;have z3:=ak.x3.lt;have z4:=ak.x4.lt;have z5:=ak.x5.lt
 go_wp2_with fail
 clear F G I J L M N O U V X Y z1 z2 z3 z4 z5;have E:=qyx (λ_=>True) sy4 sm4 _ 1 co ak.s4;rw[v6.1,v6.2]at E;refine E.mono ?_;rintro e aj ⟨dr,dC,rfl,dd,ca⟩;have bS:Hid (RSl RTe 2 (λ_=>True) aj [t1',t2',t3'] [.slice dr 3 dC]):=(RSl.good RTe.good).mono (dd.sl RTe.good (by decide)) λ_ _ _=>trivial
 have ab:=ak.ext ca;have cu:Hid (Ext w aj):=bj.out.trans' ca;clear E dd ak bj ca;have F:=ab.x1.cell 0 _;have G:=ab.x1.cell 1 _;have I:=ab.x2.cell 0 _;have J:=ab.x2.cell 1 _;have L:=ab.x3.cell 0 _;have M:=ab.x3.cell 1 _;have N:=ab.x4.cell 0 _;have O:=ab.x4.cell 1 _;have U:=ab.x4.cell 2 _;have V:=ab.x5.cell 0 _;have X:=ab.x5.cell 1 _;have Y:=ab.x5.cell 2 _;have z1:=ab.x1.lt;have z2:=ab.x2.lt;have z3:=ab.x3.lt;have z4:=ab.x4.lt;have z5:=ab.x5.lt
 go_wp2_with fail
 clear F G I J L M N O U V X Y z1 z2 z3 z4 z5
 refine qj5 [fV (.int .i64 0),fV (.bool false),fV (.bool false),fTes [t1',t2',t3'],fV (.agg #[.int .i64 0,.slice none 0 0]),qdd [lbg 0],fTe t1',qdd [lbg 0],fV (.agg #[.int .i64 1,.slice none 0 0]),qdd [lbg 1],fTe t2',qdd [lbg 0],fV (.agg #[.int .i64 2,.slice none 0 0]),qdd [lbg 2],fTe t3',fTes [t1',t2',t3'],fV (.bool true),fV (.bool false),fV (.bool false)]
  (by kernel_rfl) (by kernel_rfl) (by repeat (first | exact mv_nil | refine qj4 (by first | exact mvV _ | exact qjw _ | exact mvTe _ | exact qkh _ | exact qiu _ | exact qik _ | exact qjg _ | exact qj3 _ _) ?_)) ?_ ?_
 .refine ⟨?_,⟨?_,⟨?_,⟨?_,⟨?_,⟨?_,⟨?_,⟨?_,⟨?_,⟨?_,⟨?_,⟨?_,⟨?_,⟨?_,⟨?_,⟨?_,⟨?_,⟨?_,⟨?_,trivial⟩⟩⟩⟩⟩⟩⟩⟩⟩⟩⟩⟩⟩⟩⟩⟩⟩⟩⟩
  .intro A W d c;have m:Ext aj W:=dx d;exact qdu rfl rfl ⟨Ext.refl _,rfl⟩
  .intro A W d c;have m:Ext aj W:=dx d;exact vNeq rfl (c 0 (by decide)) rfl ⟨Ext.refl _,rfl⟩
  .intro A W d c;have m:Ext aj W:=dx d;exact qdu rfl (c 1 (by decide)) ⟨Ext.refl _,rfl⟩
  .intro A W d c;have m:Ext aj W:=dx d;refine⟨⟨_,_,rfl,rfl⟩,λ_=>?_,λh=>absurd (by rw[show A 2 = .bool false from c 2 (by decide)];rfl) h⟩;exact qdu rfl rfl ⟨Ext.refl _,(RSl.good RTe.good).bel bS.out m⟩
  .intro A W d c;have m:Ext aj W:=dx d;refine⟨⟨_,_,rfl,rfl⟩,λ_=>?_,λh=>absurd (by rw[show A 2 = .bool false from c 2 (by decide)];rfl) h⟩;exact qfb rfl rfl ((ab.ext m).x1.cell 0 _) ((ab.ext m).x1.cell 1 _) ⟨Ext.refl _,rfl⟩
  .intro A W d c;have m:Ext aj W:=dx d;refine⟨⟨_,_,rfl,rfl⟩,λ_=>?_,λh=>absurd (by rw[show A 2 = .bool false from c 2 (by decide)];rfl) h⟩;exact qgs rfl (c 4 (by decide)) ⟨(Ext.refl _).alloc _,qeh [0] (by decide) (by decide) (qca W _)⟩
  .intro A W d c;have m:Ext aj W:=dx d;refine⟨⟨_,_,rfl,rfl⟩,λ_=>?_,λh=>absurd (by rw[show A 2 = .bool false from c 2 (by decide)];rfl) h⟩;exact qfg rfl eg76 rfl rfl rfl (qhi (nil_lbs W) (c 5 (by decide)))
  .intro A W d c;have m:Ext aj W:=dx d;refine⟨⟨_,_,rfl,rfl⟩,λ_=>?_,λh=>absurd (by rw[show A 2 = .bool false from c 2 (by decide)];rfl) h⟩;exact qdu rfl rfl ⟨Ext.refl _,(ab.ext m).l6⟩
  .intro A W d c;have m:Ext aj W:=dx d;refine⟨⟨_,_,rfl,rfl⟩,λ_=>?_,λh=>absurd (by rw[show A 2 = .bool false from c 2 (by decide)];rfl) h⟩;exact qfb rfl rfl ((ab.ext m).x2.cell 0 _) ((ab.ext m).x2.cell 1 _) ⟨Ext.refl _,rfl⟩
  .intro A W d c;have m:Ext aj W:=dx d;refine⟨⟨_,_,rfl,rfl⟩,λ_=>?_,λh=>absurd (by rw[show A 2 = .bool false from c 2 (by decide)];rfl) h⟩;exact qgs rfl (c 8 (by decide)) ⟨(Ext.refl _).alloc _,qeh [1] (by decide) (by decide) (qca W _)⟩
  .intro A W d c;have m:Ext aj W:=dx d;refine⟨⟨_,_,rfl,rfl⟩,λ_=>?_,λh=>absurd (by rw[show A 2 = .bool false from c 2 (by decide)];rfl) h⟩;exact qfg rfl eg76 rfl rfl rfl (qhi (c 7 (by decide)) (c 9 (by decide)))
  .intro A W d c;have m:Ext aj W:=dx d;refine⟨⟨_,_,rfl,rfl⟩,λ_=>?_,λh=>absurd (by rw[show A 2 = .bool false from c 2 (by decide)];rfl) h⟩;exact qdu rfl rfl ⟨Ext.refl _,(ab.ext m).l6⟩
  .intro A W d c;have m:Ext aj W:=dx d;refine⟨⟨_,_,rfl,rfl⟩,λ_=>?_,λh=>absurd (by rw[show A 2 = .bool false from c 2 (by decide)];rfl) h⟩;exact qfb rfl rfl ((ab.ext m).x3.cell 0 _) ((ab.ext m).x3.cell 1 _) ⟨Ext.refl _,rfl⟩
  .intro A W d c;have m:Ext aj W:=dx d;refine⟨⟨_,_,rfl,rfl⟩,λ_=>?_,λh=>absurd (by rw[show A 2 = .bool false from c 2 (by decide)];rfl) h⟩;exact qgs rfl (c 12 (by decide)) ⟨(Ext.refl _).alloc _,qeh [2] (by decide) (by decide) (qca W _)⟩
  .intro A W d c;have m:Ext aj W:=dx d;refine⟨⟨_,_,rfl,rfl⟩,λ_=>?_,λh=>absurd (by rw[show A 2 = .bool false from c 2 (by decide)];rfl) h⟩;exact qfg rfl eg76 rfl rfl rfl (qhi (c 11 (by decide)) (c 13 (by decide)))
  .intro A W d c;have m:Ext aj W:=dx d;refine⟨⟨_,_,rfl,rfl⟩,λ_=>?_,λh=>absurd (by rw[show A 2 = .bool false from c 2 (by decide)];rfl) h⟩;obtain⟨x1,y1,x2,y2,x3,y3,e1,e2,e3,hr⟩:=tes3 (c 6 (by decide)) (c 10 (by decide)) (c 14 (by decide));exact vTes3 rfl e1 e2 e3 ⟨(Ext.refl _).alloc _,hr⟩
  .intro A W d c;have m:Ext aj W:=dx d;refine⟨⟨_,_,rfl,rfl⟩,λ_=>?_,λh=>absurd (by rw[show A 2 = .bool false from c 2 (by decide)];rfl) h⟩;exact vCall3 rfl eg23 rfl rfl rfl rfl ((qyb (λ_=>True) _ _ _ _ W (c 3 (by decide)) (c 15 (by decide))).mono λe w' h=>⟨_,h.1,h.2.ext,by rw[leq3];rfl⟩)
  .intro A W d c;have m:Ext aj W:=dx d;refine⟨⟨_,_,rfl,rfl⟩,λ_=>?_,λh=>absurd (by rw[show A 2 = .bool false from c 2 (by decide)];rfl) h⟩;exact vNot rfl (c 16 (by decide)) ⟨Ext.refl _,rfl⟩
  intro A W d c;have m:Ext aj W:=dx d;exact vPick rfl (c 2 (by decide)) rfl (c 17 (by decide)) ⟨Ext.refl _,rfl⟩
 intro df ay a8 hf;have cJ:df 18 = .bool false:=hf 18 (by decide);clear hf;simp only[qcy,Act.put,List.setIfInBounds_toArray,List.set_cons_zero,List.set_cons_succ];rw[cJ];clear cJ;have ac:=ab.ext a8;have bk:Hid (Ext w ay):=cu.out.trans' a8;have F:=ac.x1.cell 0 _;have G:=ac.x1.cell 1 _;have I:=ac.x2.cell 0 _;have J:=ac.x2.cell 1 _;have L:=ac.x3.cell 0 _;have M:=ac.x3.cell 1 _;have N:=ac.x4.cell 0 _;have O:=ac.x4.cell 1 _;have U:=ac.x4.cell 2 _;have V:=ac.x5.cell 0 _;have X:=ac.x5.cell 1 _;have Y:=ac.x5.cell 2 _;have z1:=ac.x1.lt;have z2:=ac.x2.lt;have z3:=ac.x3.lt;have z4:=ac.x4.lt;have z5:=ac.x5.lt
 go_wp2_with fail
 clear F G I J L M N O U V X Y z1 z2 z3 z4 z5
 refine qj5 [qdd [lbg 0],fV (.agg #[.int .i64 1,.slice none 0 0]),qdd [lbg 1],fTe t2',fV (.agg #[.int .i64 3,.slice A5 3 c5,.slice B5 4 d5]),qe4 [1,2],qe4 [1,2],qgv [1,2],fV (.int .i64 0),qgv [1,2],fV (.int .i64 0)]
  (by kernel_rfl) (by kernel_rfl) (by repeat (first | exact mv_nil | refine qj4 (by first | exact mvV _ | exact qjw _ | exact mvTe _ | exact qkh _ | exact qiu _ | exact qik _ | exact qjg _ | exact qj3 _ _) ?_)) ?_ ?_
 .refine ⟨?_,⟨?_,⟨?_,⟨?_,⟨?_,⟨?_,⟨?_,⟨?_,⟨?_,⟨?_,⟨?_,trivial⟩⟩⟩⟩⟩⟩⟩⟩⟩⟩⟩
  .intro A W d c;have m:Ext ay W:=dx d;exact qdu rfl rfl ⟨Ext.refl _,(ac.ext m).l6⟩
  .intro A W d c;have m:Ext ay W:=dx d;exact qfb rfl rfl ((ac.ext m).x2.cell 0 _) ((ac.ext m).x2.cell 1 _) ⟨Ext.refl _,rfl⟩
  .intro A W d c;have m:Ext ay W:=dx d;exact qgs rfl (c 1 (by decide)) ⟨(Ext.refl _).alloc _,qeh [1] (by decide) (by decide) (qca W _)⟩
  .intro A W d c;have m:Ext ay W:=dx d;exact qfg rfl eg76 rfl rfl rfl (qhi (c 0 (by decide)) (c 2 (by decide)))
  .intro A W d c;have m:Ext ay W:=dx d;exact qm5 rfl rfl ((ac.ext m).x5.cell 0 _) ((ac.ext m).x5.cell 1 _) ((ac.ext m).x5.cell 2 _) ⟨Ext.refl _,rfl⟩
  .intro A W d c;have m:Ext ay W:=dx d;obtain⟨x,y,ex,rx⟩:fTe t2' (A 3) W:=(c 3 (by decide))
   exact qfg rfl eg31 ex (c 4 (by decide)) rfl (qss t2' _ v7 rx (ac.ext m).s5)
  .intro A W d c;have m:Ext ay W:=dx d;exact qdu rfl rfl ⟨Ext.refl _,(c 5 (by decide))⟩
  .intro A W d c;have m:Ext ay W:=dx d;obtain⟨u,eu,ru⟩:qe4 [1,2] (A 6) W:=(c 6 (by decide))
   exact qhl rfl eu rfl ⟨Ext.refl _,ru⟩
  .intro A W d c;have m:Ext ay W:=dx d;obtain⟨u,eu,ru⟩:qe4 [1,2] (A 6) W:=(c 6 (by decide))
   exact qhl rfl eu rfl ⟨Ext.refl _,rfl⟩
  .intro A W d c;have m:Ext ay W:=dx d;exact qh0 rfl rfl ⟨Ext.refl _,(c 7 (by decide))⟩
  intro A W d c;have m:Ext ay W:=dx d;exact qh0 rfl (c 8 (by decide)) ⟨Ext.refl _,rfl⟩
 intro bN aw a9 hf;have cG:bN 10 = .int .i64 0:=hf 10 (by decide);have aY:qgv [1,2] (bN 9) aw:=hf 9 (by decide);obtain⟨dT,dZ,bV,_,_⟩:=RSl.val aY;rw[bV]at aY;have cB:=Hd aY;clear hf aY;simp only[qcy,Act.put,List.setIfInBounds_toArray,List.set_cons_zero,List.set_cons_succ];rw[cG,bV];clear cG bV;have aa:=ac.ext a9;have bl:Hid (Ext w aw):=bk.out.trans' a9;have F:=aa.x1.cell 0 _;have G:=aa.x1.cell 1 _;have I:=aa.x2.cell 0 _;have J:=aa.x2.cell 1 _;have L:=aa.x3.cell 0 _;have M:=aa.x3.cell 1 _;have N:=aa.x4.cell 0 _;have O:=aa.x4.cell 1 _;have U:=aa.x4.cell 2 _;have V:=aa.x5.cell 0 _;have X:=aa.x5.cell 1 _;have Y:=aa.x5.cell 2 _;have z1:=aa.x1.lt;have z2:=aa.x2.lt;have z3:=aa.x3.lt;have z4:=aa.x4.lt;have z5:=aa.x5.lt
 go_wp2_with fail
 clear F G I J L M N O U V X Y z1 z2 z3 z4 z5
 refine qj5 [fV (.agg #[.int .i64 0,.slice none 0 0]),fV (.agg #[.int .i64 1,.slice none 0 0]),qdd [lbg 0,lbg 1],fV (.agg #[.int .i64 0,.slice none 0 0]),qdd [lbg 0],fTe ⟨[lbg 0,lbg 1],[lbg 0]⟩,fV (.agg #[.int .i64 3,.slice A5 3 c5,.slice B5 4 d5]),qe4 [1,3],qe4 [1,3],qgv [1,3],fV (.int .i64 0),qgv [1,3],fV (.int .i64 0)]
  (by kernel_rfl) (by kernel_rfl) (by repeat (first | exact mv_nil | refine qj4 (by first | exact mvV _ | exact qjw _ | exact mvTe _ | exact qkh _ | exact qiu _ | exact qik _ | exact qjg _ | exact qj3 _ _) ?_)) ?_ ?_
 .refine ⟨?_,⟨?_,⟨?_,⟨?_,⟨?_,⟨?_,⟨?_,⟨?_,⟨?_,⟨?_,⟨?_,⟨?_,⟨?_,trivial⟩⟩⟩⟩⟩⟩⟩⟩⟩⟩⟩⟩⟩
  .intro A W d c;have m:Ext aw W:=dx d;exact qfb rfl rfl ((aa.ext m).x1.cell 0 _) ((aa.ext m).x1.cell 1 _) ⟨Ext.refl _,rfl⟩
  .intro A W d c;have m:Ext aw W:=dx d;exact qfb rfl rfl ((aa.ext m).x2.cell 0 _) ((aa.ext m).x2.cell 1 _) ⟨Ext.refl _,rfl⟩
  .intro A W d c;have m:Ext aw W:=dx d;exact vLit2 rfl (c 0 (by decide)) (c 1 (by decide)) ⟨(Ext.refl _).alloc _,qeh [0,1] (by decide) (by decide) (qca W _)⟩
  .intro A W d c;have m:Ext aw W:=dx d;exact qfb rfl rfl ((aa.ext m).x1.cell 0 _) ((aa.ext m).x1.cell 1 _) ⟨Ext.refl _,rfl⟩
  .intro A W d c;have m:Ext aw W:=dx d;exact qgs rfl (c 3 (by decide)) ⟨(Ext.refl _).alloc _,qeh [0] (by decide) (by decide) (qca W _)⟩
  .intro A W d c;have m:Ext aw W:=dx d;exact qfg rfl eg76 rfl rfl rfl (qhi (c 2 (by decide)) (c 4 (by decide)))
  .intro A W d c;have m:Ext aw W:=dx d;exact qm5 rfl rfl ((aa.ext m).x5.cell 0 _) ((aa.ext m).x5.cell 1 _) ((aa.ext m).x5.cell 2 _) ⟨Ext.refl _,rfl⟩
  .intro A W d c;have m:Ext aw W:=dx d;obtain⟨x,y,ex,rx⟩:fTe ⟨[lbg 0,lbg 1],[lbg 0]⟩ (A 5) W:=(c 5 (by decide))
   exact qfg rfl eg31 ex (c 6 (by decide)) rfl (qss _ _ v8 rx (aa.ext m).s5)
  .intro A W d c;have m:Ext aw W:=dx d;exact qdu rfl rfl ⟨Ext.refl _,(c 7 (by decide))⟩
  .intro A W d c;have m:Ext aw W:=dx d;obtain⟨u,eu,ru⟩:qe4 [1,3] (A 8) W:=(c 8 (by decide))
   exact qhl rfl eu rfl ⟨Ext.refl _,ru⟩
  .intro A W d c;have m:Ext aw W:=dx d;obtain⟨u,eu,ru⟩:qe4 [1,3] (A 8) W:=(c 8 (by decide))
   exact qhl rfl eu rfl ⟨Ext.refl _,rfl⟩
  .intro A W d c;have m:Ext aw W:=dx d;exact qh0 rfl rfl ⟨Ext.refl _,(c 9 (by decide))⟩
  intro A W d c;have m:Ext aw W:=dx d;exact qh0 rfl (c 10 (by decide)) ⟨Ext.refl _,rfl⟩
 intro bO bf aM hf;have cH:bO 12 = .int .i64 0:=hf 12 (by decide);have aZ:qgv [1,3] (bO 11) bf:=hf 11 (by decide);obtain⟨dU,d0,bW,_,_⟩:=RSl.val aZ;rw[bW]at aZ;have cC:=Hd aZ;clear hf aZ;simp only[qcy,Act.put,List.setIfInBounds_toArray,List.set_cons_zero,List.set_cons_succ];rw[cH,bW];clear cH bW;have aq:=aa.ext aM;have bm:Hid (Ext w bf):=bl.out.trans' aM;have F:=aq.x1.cell 0 _;have G:=aq.x1.cell 1 _;have I:=aq.x2.cell 0 _;have J:=aq.x2.cell 1 _;have L:=aq.x3.cell 0 _;have M:=aq.x3.cell 1 _;have N:=aq.x4.cell 0 _;have O:=aq.x4.cell 1 _;have U:=aq.x4.cell 2 _;have V:=aq.x5.cell 0 _;have X:=aq.x5.cell 1 _;have Y:=aq.x5.cell 2 _;have z1:=aq.x1.lt;have z2:=aq.x2.lt;have z3:=aq.x3.lt;have z4:=aq.x4.lt;have z5:=aq.x5.lt
 go_wp2_with fail
 clear F G I J L M N O U V X Y z1 z2 z3 z4 z5;have E:=qju (λ_=>True) [1,2] [1,2] _ _ _ ((RSl.good qad.good).bel cB.out (Ext.alloc aM _)) (qkw [1,2] (by decide) (by decide) (qca bf _));rw[show decide (([1,2]:List Int)=[1,2])=true by decide]at E;refine E.mono ?_;rintro e cp ⟨rfl,dM⟩;have aB:Ext bf cp:=bel;clear E
 go_wp2_with fail
 have E:=qju (λ_=>True) [1,3] [1,3] _ _ _ ((RSl.good qad.good).bel cC.out (Ext.alloc aB _)) (qkw [1,3] (by decide) (by decide) (qca cp _));rw[show decide (([1,3]:List Int)=[1,3])=true by decide]at E;refine E.mono ?_;rintro e cq ⟨rfl,dN⟩;have aF:Ext cp cq:=bel;have ai:=aq.ext (aB.trans' aF);have bn:Hid (Ext w cq):=bm.out.trans' (aB.trans' aF);have bv:=(RSl.good RTe.good).bel bS.out (a8.trans' (a9.trans' (aM.trans' (aB.trans' aF))));clear E dM dN aB aF bS cB cC aq aa ac a8 a9 aM bk bl bm;have F:=ai.x1.cell 0 _;have G:=ai.x1.cell 1 _;have I:=ai.x2.cell 0 _;have J:=ai.x2.cell 1 _;have L:=ai.x3.cell 0 _;have M:=ai.x3.cell 1 _;have N:=ai.x4.cell 0 _;have O:=ai.x4.cell 1 _;have U:=ai.x4.cell 2 _;have V:=ai.x5.cell 0 _;have X:=ai.x5.cell 1 _;have Y:=ai.x5.cell 2 _;have z1:=ai.x1.lt;have z2:=ai.x2.lt;have z3:=ai.x3.lt;have z4:=ai.x4.lt;have z5:=ai.x5.lt
 go_wp2_with fail
 clear F G I J L M N O U V X Y z1 z2 z3 z4 z5;have E:=qse (λ_=>True) sy4 sy5 sm4 _ _ 1 cq ai.s4 ai.s5;rw[v9.1,v9.2.1,v9.2.2]at E;refine E.mono ?_;rintro e aV ⟨dP,u19,rfl,cl,ba⟩;obtain⟨dP,u19,bX,bH,bF⟩:=id cl;injection bX with e19a bX
 injection bX with e19b _
 subst e19a e19b;obtain⟨aW,a6,rfl,_,_⟩:=bH.val;obtain⟨aX,a7,rfl,_,_⟩:=bF.val;have cD:=Hd cl;have au:=ai.ext ba;clear E cl bH bF;have F:=au.x1.cell 0 _;have G:=au.x1.cell 1 _;have I:=au.x2.cell 0 _;have J:=au.x2.cell 1 _;have L:=au.x3.cell 0 _;have M:=au.x3.cell 1 _;have N:=au.x4.cell 0 _;have O:=au.x4.cell 1 _;have U:=au.x4.cell 2 _;have V:=au.x5.cell 0 _;have X:=au.x5.cell 1 _;have Y:=au.x5.cell 2 _;have z1:=au.x1.lt;have z2:=au.x2.lt;have z3:=au.x3.lt;have z4:=au.x4.lt;have z5:=au.x5.lt
 go_wp2_with fail
 clear F G I J L M N O U V X Y z1 z2 z3 z4 z5;obtain⟨bU,aQ⟩:=nm (aV.heap.size);obtain⟨az,aD⟩:=nm (aV.alloc (.cells #[.slice aW 1 a6,.slice aX 1 a7] 40));have aO:aV.alloc (.cells #[.slice aW t2'.tr.length a6,.slice aX t2'.mu.length a7] 40)=az:=aD;have cy:qaf az bU 40 [.slice aW 1 a6,.slice aX 1 a7]:=by show az.heap[_]? = _;rw[<- aD,<- aQ];exact qca _ _
 have aN:Ext aV az:=by rw[<- aD];exact(Ext.refl aV).alloc _
 rw[aO,aQ];clear aD aO aQ;have a5:=au.ext aN;have bB:RTe (λ_=>True) az t2' [.slice aW 1 a6,.slice aX 1 a7]:=RTe.good.bel cD.out aN;have bw:=(RSl.good RTe.good).bel bv (ba.trans' aN);have bo:Hid (Ext w az):=bn.out.trans' (ba.trans' aN);clear cD au ai ba aN bn bv;have E:=qse (λ_=>True) sy5 sy4 sm5 _ _ 1 az a5.s5 a5.s4;rw[v10.1,v10.2]at E;refine E.mono ?_;rintro e bg ⟨dQ,u21,rfl,de,aG⟩;obtain⟨dQ,u21,bY,bI,bG⟩:=id de;injection bY with e21a bY
 injection bY with e21b _
 subst e21a e21b;obtain⟨ds,dD,rfl,_,_⟩:=bI.val;obtain⟨dt,dE,rfl,_,_⟩:=bG.val;have av:=a5.ext aG;have bu:=cy.ext aG;have bC:=Hd (RTe.good.bel bB aG);have bx:=Hd ((RSl.good RTe.good).bel bw aG);have bp:Hid (Ext w bg):=bo.out.trans' aG;clear E de bI bG cy bB bw a5 bo aG;have F:=av.x1.cell 0 _;have G:=av.x1.cell 1 _;have I:=av.x2.cell 0 _;have J:=av.x2.cell 1 _;have L:=av.x3.cell 0 _;have M:=av.x3.cell 1 _;have N:=av.x4.cell 0 _;have O:=av.x4.cell 1 _;have U:=av.x4.cell 2 _;have V:=av.x5.cell 0 _;have X:=av.x5.cell 1 _;have Y:=av.x5.cell 2 _;have z1:=av.x1.lt;have z2:=av.x2.lt;have z3:=av.x3.lt;have z4:=av.x4.lt;have z5:=av.x5.lt
 go_wp2_with fail
 clear F G I J L M N O U V X Y z1 z2 z3 z4 z5;obtain⟨ae,aP⟩:=nm (bg.alloc (.cells #[.slice ds (qep sy5 sy4 1).tr.length dD,.slice dt (qep sy5 sy4 1).mu.length dE] 40));have aH:Ext bg ae:=by rw[<- aP];exact(Ext.refl bg).alloc _
 rw[aP];clear aP;have aL:=av.ext aH;have bR:=bu.ext aH;have cE:=RTe.good.bel bC.out aH
 refine qj5 [fV (.bool false),fV (.bool false),fTe t2',qdd [lbg 0],fV (.agg #[.int .i64 1,.slice none 0 0]),qdd [lbg 1],fTe t2',fV (.bool true),fV (.bool false),fV (.bool false),fV (.bool false),fV (.int .i64 0),fV (.bool false),fV (.bool false),fV (.bool false),fV (.bool true),fV (.bool false),fV (.bool false),fV (.bool false),fV (.int .i64 0),fV (.bool false),fV (.bool false)]
  (by kernel_rfl) (by kernel_rfl) (by repeat (first | exact mv_nil | refine qj4 (by first | exact mvV _ | exact qjw _ | exact mvTe _ | exact qkh _ | exact qiu _ | exact qik _ | exact qjg _ | exact qj3 _ _) ?_)) ?_ ?_
 .refine ⟨?_,⟨?_,⟨?_,⟨?_,⟨?_,⟨?_,⟨?_,⟨?_,⟨?_,⟨?_,⟨?_,⟨?_,⟨?_,⟨?_,⟨?_,⟨?_,⟨?_,⟨?_,⟨?_,⟨?_,⟨?_,⟨?_,trivial⟩⟩⟩⟩⟩⟩⟩⟩⟩⟩⟩⟩⟩⟩⟩⟩⟩⟩⟩⟩⟩⟩
  .intro A W d c;have m:Ext ae W:=dx d;exact qdu rfl rfl ⟨Ext.refl _,rfl⟩
  .intro A W d c;have m:Ext ae W:=dx d;exact qdu rfl (c 0 (by decide)) ⟨Ext.refl _,rfl⟩
  .intro A W d c;have m:Ext ae W:=dx d;refine⟨⟨_,_,rfl,rfl⟩,λ_=>?_,λh=>absurd (by rw[show A 1 = .bool false from c 1 (by decide)];rfl) h⟩;exact vLoad40 rfl rfl ((bR.ext m).cell 0 _) ((bR.ext m).cell 1 _) ⟨Ext.refl _,_,_,rfl,RTe.good.bel cE m⟩
  .intro A W d c;have m:Ext ae W:=dx d;refine⟨⟨_,_,rfl,rfl⟩,λ_=>?_,λh=>absurd (by rw[show A 1 = .bool false from c 1 (by decide)];rfl) h⟩;exact qdu rfl rfl ⟨Ext.refl _,(aL.ext m).l6⟩
  .intro A W d c;have m:Ext ae W:=dx d;refine⟨⟨_,_,rfl,rfl⟩,λ_=>?_,λh=>absurd (by rw[show A 1 = .bool false from c 1 (by decide)];rfl) h⟩;exact qfb rfl rfl ((aL.ext m).x2.cell 0 _) ((aL.ext m).x2.cell 1 _) ⟨Ext.refl _,rfl⟩
  .intro A W d c;have m:Ext ae W:=dx d;refine⟨⟨_,_,rfl,rfl⟩,λ_=>?_,λh=>absurd (by rw[show A 1 = .bool false from c 1 (by decide)];rfl) h⟩;exact qgs rfl (c 4 (by decide)) ⟨(Ext.refl _).alloc _,qeh [1] (by decide) (by decide) (qca W _)⟩
  .intro A W d c;have m:Ext ae W:=dx d;refine⟨⟨_,_,rfl,rfl⟩,λ_=>?_,λh=>absurd (by rw[show A 1 = .bool false from c 1 (by decide)];rfl) h⟩;exact qfg rfl eg76 rfl rfl rfl (qhi (c 3 (by decide)) (c 5 (by decide)))
  .intro A W d c;have m:Ext ae W:=dx d;refine⟨⟨_,_,rfl,rfl⟩,λ_=>?_,λh=>absurd (by rw[show A 1 = .bool false from c 1 (by decide)];rfl) h⟩;obtain⟨x,y,ex,rx⟩:fTe t2' (A 2) W:=(c 2 (by decide))
   obtain⟨x',y',dF,dO⟩:fTe t2' (A 6) W:=(c 6 (by decide))
   exact qfg rfl eg24 ex dF rfl ((qsd (λ_=>True) t2' t2' _ _ W rx dO).mono λe w' h=>⟨_,h.1,h.2.ext,by rw[show qj7 t2' t2'=true by decide +kernel];rfl⟩)
  .intro A W d c;have m:Ext ae W:=dx d;refine⟨⟨_,_,rfl,rfl⟩,λ_=>?_,λh=>absurd (by rw[show A 1 = .bool false from c 1 (by decide)];rfl) h⟩;exact vNot rfl (c 7 (by decide)) ⟨Ext.refl _,rfl⟩
  .intro A W d c;have m:Ext ae W:=dx d;exact vPick rfl (c 1 (by decide)) rfl (c 8 (by decide)) ⟨Ext.refl _,rfl⟩
  .intro A W d c;have m:Ext ae W:=dx d;exact qdu rfl (c 9 (by decide)) ⟨Ext.refl _,rfl⟩
  .intro A W d c;have m:Ext ae W:=dx d;refine⟨⟨_,_,rfl,rfl⟩,λ_=>?_,λh=>absurd (by rw[show A 10 = .bool false from c 10 (by decide)];rfl) h⟩;exact qdu rfl rfl ⟨Ext.refl _,rfl⟩
  .intro A W d c;have m:Ext ae W:=dx d;refine⟨⟨_,_,rfl,rfl⟩,λ_=>?_,λh=>absurd (by rw[show A 10 = .bool false from c 10 (by decide)];rfl) h⟩;exact vNeq rfl (c 11 (by decide)) rfl ⟨Ext.refl _,rfl⟩
  .intro A W d c;have m:Ext ae W:=dx d;exact vPick rfl (c 10 (by decide)) rfl (c 12 (by decide)) ⟨Ext.refl _,rfl⟩
  .intro A W d c;have m:Ext ae W:=dx d;exact qdu rfl (c 13 (by decide)) ⟨Ext.refl _,rfl⟩
  .intro A W d c;have m:Ext ae W:=dx d;refine⟨⟨_,_,rfl,rfl⟩,λ_=>?_,λh=>absurd (by rw[show A 14 = .bool false from c 14 (by decide)];rfl) h⟩;exact qdu rfl rfl ⟨Ext.refl _,rfl⟩
  .intro A W d c;have m:Ext ae W:=dx d;refine⟨⟨_,_,rfl,rfl⟩,λ_=>?_,λh=>absurd (by rw[show A 14 = .bool false from c 14 (by decide)];rfl) h⟩;exact vNot rfl (c 15 (by decide)) ⟨Ext.refl _,rfl⟩
  .intro A W d c;have m:Ext ae W:=dx d;exact vPick rfl (c 14 (by decide)) rfl (c 16 (by decide)) ⟨Ext.refl _,rfl⟩
  .intro A W d c;have m:Ext ae W:=dx d;exact qdu rfl (c 17 (by decide)) ⟨Ext.refl _,rfl⟩
  .intro A W d c;have m:Ext ae W:=dx d;refine⟨⟨_,_,rfl,rfl⟩,λ_=>?_,λh=>absurd (by rw[show A 18 = .bool false from c 18 (by decide)];rfl) h⟩;exact qdu rfl rfl ⟨Ext.refl _,rfl⟩
  .intro A W d c;have m:Ext ae W:=dx d;refine⟨⟨_,_,rfl,rfl⟩,λ_=>?_,λh=>absurd (by rw[show A 18 = .bool false from c 18 (by decide)];rfl) h⟩;exact vNeq rfl (c 19 (by decide)) rfl ⟨Ext.refl _,rfl⟩
  intro A W d c;have m:Ext ae W:=dx d;exact vPick rfl (c 18 (by decide)) rfl (c 20 (by decide)) ⟨Ext.refl _,rfl⟩
 intro dg ax bb hf;have cK:dg 21 = .bool false:=hf 21 (by decide);clear hf;simp only[qcy,Act.put,List.setIfInBounds_toArray,List.set_cons_zero,List.set_cons_succ];rw[cK];clear cK;have ad:=aL.ext bb;have bz:=(RSl.good RTe.good).bel bx.out (aH.trans' bb);have bq:Hid (Ext w ax):=bp.out.trans' (aH.trans' bb);clear av aL bu bR bC cE aH bb bp bx;have F:=ad.x1.cell 0 _;have G:=ad.x1.cell 1 _;have I:=ad.x2.cell 0 _;have J:=ad.x2.cell 1 _;have L:=ad.x3.cell 0 _;have M:=ad.x3.cell 1 _;have N:=ad.x4.cell 0 _;have O:=ad.x4.cell 1 _;have U:=ad.x4.cell 2 _;have V:=ad.x5.cell 0 _;have X:=ad.x5.cell 1 _;have Y:=ad.x5.cell 2 _;have z1:=ad.x1.lt;have z2:=ad.x2.lt;have z3:=ad.x3.lt;have z4:=ad.x4.lt;have z5:=ad.x5.lt
 go_wp2_with fail
 clear F G I J L M N O U V X Y z1 z2 z3 z4 z5
 refine qj5 [fV (.agg #[.int .i64 2,.slice A4 3 c4,.slice B4 3 d4]),qdd [lbg 0],fV (.agg #[.int .i64 1,.slice none 0 0]),qdd [lbg 1],fTe t2',fTes [t2'],qib [true,true,false] [true,false,false],qib [true,true,false] [true,false,false],qg9 [true,true,false],qg9 [true,false,false],fV (.int .i64 0),qg9 [true,true,false],qg9 [true,false,false],fV (.int .i64 0)]
  (by kernel_rfl) (by kernel_rfl) (by repeat (first | exact mv_nil | refine qj4 (by first | exact mvV _ | exact qjw _ | exact mvTe _ | exact qkh _ | exact qiu _ | exact qik _ | exact qjg _ | exact qj3 _ _) ?_)) ?_ ?_
 .refine ⟨?_,⟨?_,⟨?_,⟨?_,⟨?_,⟨?_,⟨?_,⟨?_,⟨?_,⟨?_,⟨?_,⟨?_,⟨?_,⟨?_,trivial⟩⟩⟩⟩⟩⟩⟩⟩⟩⟩⟩⟩⟩⟩
  .intro A W d c;have m:Ext ax W:=dx d;exact qm5 rfl rfl ((ad.ext m).x4.cell 0 _) ((ad.ext m).x4.cell 1 _) ((ad.ext m).x4.cell 2 _) ⟨Ext.refl _,rfl⟩
  .intro A W d c;have m:Ext ax W:=dx d;exact qdu rfl rfl ⟨Ext.refl _,(ad.ext m).l6⟩
  .intro A W d c;have m:Ext ax W:=dx d;exact qfb rfl rfl ((ad.ext m).x2.cell 0 _) ((ad.ext m).x2.cell 1 _) ⟨Ext.refl _,rfl⟩
  .intro A W d c;have m:Ext ax W:=dx d;exact qgs rfl (c 2 (by decide)) ⟨(Ext.refl _).alloc _,qeh [1] (by decide) (by decide) (qca W _)⟩
  .intro A W d c;have m:Ext ax W:=dx d;exact qfg rfl eg76 rfl rfl rfl (qhi (c 1 (by decide)) (c 3 (by decide)))
  .intro A W d c;have m:Ext ax W:=dx d;obtain⟨x1,y1,e1,hr⟩:=tes1 (c 4 (by decide));exact vTes1 rfl e1 ⟨(Ext.refl _).alloc _,hr⟩
  .intro A W d c;have m:Ext ax W:=dx d;exact qfg rfl eg48 (c 0 (by decide)) rfl rfl (cov_call (c 5 (by decide)) (ad.ext m).s4)
  .intro A W d c;have m:Ext ax W:=dx d;exact qdu rfl rfl ⟨Ext.refl _,(c 6 (by decide))⟩
  .intro A W d c;have m:Ext ax W:=dx d;obtain⟨u,t,eu,ru,rt⟩:qib _ _ (A 7) W:=(c 7 (by decide))
   exact qhl rfl eu rfl ⟨Ext.refl _,ru⟩
  .intro A W d c;have m:Ext ax W:=dx d;obtain⟨u,t,eu,ru,rt⟩:qib _ _ (A 7) W:=(c 7 (by decide))
   exact qhl rfl eu rfl ⟨Ext.refl _,rt⟩
  .intro A W d c;have m:Ext ax W:=dx d;obtain⟨u,t,eu,ru,rt⟩:qib _ _ (A 7) W:=(c 7 (by decide))
   exact qhl rfl eu rfl ⟨Ext.refl _,rfl⟩
  .intro A W d c;have m:Ext ax W:=dx d;exact qh0 rfl rfl ⟨Ext.refl _,(c 8 (by decide))⟩
  .intro A W d c;have m:Ext ax W:=dx d;exact qh0 rfl rfl ⟨Ext.refl _,(c 9 (by decide))⟩
  intro A W d c;have m:Ext ax W:=dx d;exact qh0 rfl (c 10 (by decide)) ⟨Ext.refl _,rfl⟩
 intro aU bh bc hf;have cI:aU 13 = .int .i64 0:=hf 13 (by decide);have a0:qg9 [true,true,false] (aU 11) bh:=hf 11 (by decide);have a1:qg9 [true,false,false] (aU 12) bh:=hf 12 (by decide);obtain⟨dV,d1,bZ,_,_⟩:=RSl.val a0;obtain⟨dW,d2,b0,_,_⟩:=RSl.val a1;rw[bZ]at a0;rw[b0]at a1;clear hf;simp only[qcy,Act.put,List.setIfInBounds_toArray,List.set_cons_zero,List.set_cons_succ];rw[cI,bZ,b0];clear cI bZ b0;have du:=Hd a0;have dv:=Hd a1;have al:=ad.ext bc;have bA:=(RSl.good RTe.good).bel bz bc;have br:Hid (Ext w bh):=bq.out.trans' bc;clear ad bc bq bz a0 a1;have F:=al.x1.cell 0 _;have G:=al.x1.cell 1 _;have I:=al.x2.cell 0 _;have J:=al.x2.cell 1 _;have L:=al.x3.cell 0 _;have M:=al.x3.cell 1 _;have N:=al.x4.cell 0 _;have O:=al.x4.cell 1 _;have U:=al.x4.cell 2 _;have V:=al.x5.cell 0 _;have X:=al.x5.cell 1 _;have Y:=al.x5.cell 2 _;have z1:=al.x1.lt;have z2:=al.x2.lt;have z3:=al.x3.lt;have z4:=al.x4.lt;have z5:=al.x5.lt
 go_wp2_with fail
 clear F G I J L M N O U V X Y z1 z2 z3 z4 z5;refine(qtf _ _ v12 bA al.s4).mono ?_;rintro e af ⟨v,rfl,cb,u24,rfl,bQ⟩;obtain⟨dX,d3,rfl,_,_⟩:=RSl.val bQ;have dw:=Hd bQ;have D:=al.ext cb;have bs:Hid (Ext w af):=br.out.trans' cb;clear al br bA bQ;have F:=D.x1.cell 0 _;have G:=D.x1.cell 1 _;have I:=D.x2.cell 0 _;have J:=D.x2.cell 1 _;have L:=D.x3.cell 0 _;have M:=D.x3.cell 1 _;have N:=D.x4.cell 0 _;have O:=D.x4.cell 1 _;have U:=D.x4.cell 2 _;have V:=D.x5.cell 0 _;have X:=D.x5.cell 1 _;have Y:=D.x5.cell 2 _;have z1:=D.x1.lt;have z2:=D.x2.lt;have z3:=D.x3.lt;have z4:=D.x4.lt;have z5:=D.x5.lt
 go_wp2_with fail
 clear F G I J L M N O U V X Y z1 z2 z3 z4 z5
 refine qj5 [fV (.agg #[.int .i64 2,.slice A4 3 c4,.slice B4 3 d4]),qdd [lbg 0],fV (.agg #[.int .i64 1,.slice none 0 0]),qdd [lbg 1],fTe t2',fV (.agg #[.int .i64 0,.slice none 0 0]),fV (.agg #[.int .i64 1,.slice none 0 0]),qdd [lbg 0,lbg 1],fV (.agg #[.int .i64 0,.slice none 0 0]),qdd [lbg 0],fTe ⟨[lbg 0,lbg 1],[lbg 0]⟩,fV (.agg #[.int .i64 2,.slice none 0 0]),qdd [lbg 2],fV (.agg #[.int .i64 0,.slice none 0 0]),qdd [lbg 0],fTe ⟨[lbg 2],[lbg 0]⟩,fTes [t2',⟨[lbg 0,lbg 1],[lbg 0]⟩,⟨[lbg 2],[lbg 0]⟩],qe4 [1],qe4 [1],qgv [1],fV (.int .i64 0),qgv [1],fV (.int .i64 0)]
  (by kernel_rfl) (by kernel_rfl) (by repeat (first | exact mv_nil | refine qj4 (by first | exact mvV _ | exact qjw _ | exact mvTe _ | exact qkh _ | exact qiu _ | exact qik _ | exact qjg _ | exact qj3 _ _) ?_)) ?_ ?_
 .refine ⟨?_,⟨?_,⟨?_,⟨?_,⟨?_,⟨?_,⟨?_,⟨?_,⟨?_,⟨?_,⟨?_,⟨?_,⟨?_,⟨?_,⟨?_,⟨?_,⟨?_,⟨?_,⟨?_,⟨?_,⟨?_,⟨?_,⟨?_,trivial⟩⟩⟩⟩⟩⟩⟩⟩⟩⟩⟩⟩⟩⟩⟩⟩⟩⟩⟩⟩⟩⟩⟩
  .intro A W d c;have m:Ext af W:=dx d;exact qm5 rfl rfl ((D.ext m).x4.cell 0 _) ((D.ext m).x4.cell 1 _) ((D.ext m).x4.cell 2 _) ⟨Ext.refl _,rfl⟩
  .intro A W d c;have m:Ext af W:=dx d;exact qdu rfl rfl ⟨Ext.refl _,(D.ext m).l6⟩
  .intro A W d c;have m:Ext af W:=dx d;exact qfb rfl rfl ((D.ext m).x2.cell 0 _) ((D.ext m).x2.cell 1 _) ⟨Ext.refl _,rfl⟩
  .intro A W d c;have m:Ext af W:=dx d;exact qgs rfl (c 2 (by decide)) ⟨(Ext.refl _).alloc _,qeh [1] (by decide) (by decide) (qca W _)⟩
  .intro A W d c;have m:Ext af W:=dx d;exact qfg rfl eg76 rfl rfl rfl (qhi (c 1 (by decide)) (c 3 (by decide)))
  .intro A W d c;have m:Ext af W:=dx d;exact qfb rfl rfl ((D.ext m).x1.cell 0 _) ((D.ext m).x1.cell 1 _) ⟨Ext.refl _,rfl⟩
  .intro A W d c;have m:Ext af W:=dx d;exact qfb rfl rfl ((D.ext m).x2.cell 0 _) ((D.ext m).x2.cell 1 _) ⟨Ext.refl _,rfl⟩
  .intro A W d c;have m:Ext af W:=dx d;exact vLit2 rfl (c 5 (by decide)) (c 6 (by decide)) ⟨(Ext.refl _).alloc _,qeh [0,1] (by decide) (by decide) (qca W _)⟩
  .intro A W d c;have m:Ext af W:=dx d;exact qfb rfl rfl ((D.ext m).x1.cell 0 _) ((D.ext m).x1.cell 1 _) ⟨Ext.refl _,rfl⟩
  .intro A W d c;have m:Ext af W:=dx d;exact qgs rfl (c 8 (by decide)) ⟨(Ext.refl _).alloc _,qeh [0] (by decide) (by decide) (qca W _)⟩
  .intro A W d c;have m:Ext af W:=dx d;exact qfg rfl eg76 rfl rfl rfl (qhi (c 7 (by decide)) (c 9 (by decide)))
  .intro A W d c;have m:Ext af W:=dx d;exact qfb rfl rfl ((D.ext m).x3.cell 0 _) ((D.ext m).x3.cell 1 _) ⟨Ext.refl _,rfl⟩
  .intro A W d c;have m:Ext af W:=dx d;exact qgs rfl (c 11 (by decide)) ⟨(Ext.refl _).alloc _,qeh [2] (by decide) (by decide) (qca W _)⟩
  .intro A W d c;have m:Ext af W:=dx d;exact qfb rfl rfl ((D.ext m).x1.cell 0 _) ((D.ext m).x1.cell 1 _) ⟨Ext.refl _,rfl⟩
  .intro A W d c;have m:Ext af W:=dx d;exact qgs rfl (c 13 (by decide)) ⟨(Ext.refl _).alloc _,qeh [0] (by decide) (by decide) (qca W _)⟩
  .intro A W d c;have m:Ext af W:=dx d;exact qfg rfl eg76 rfl rfl rfl (qhi (c 12 (by decide)) (c 14 (by decide)))
  .intro A W d c;have m:Ext af W:=dx d;obtain⟨x1,y1,x2,y2,x3,y3,e1,e2,e3,hr⟩:=tes3 (c 4 (by decide)) (c 10 (by decide)) (c 15 (by decide));exact vTes3 rfl e1 e2 e3 ⟨(Ext.refl _).alloc _,hr⟩
  .intro A W d c;have m:Ext af W:=dx d;exact qfg rfl eg53 (c 0 (by decide)) rfl rfl (qtf _ _ v13 (c 16 (by decide)) (D.ext m).s4)
  .intro A W d c;have m:Ext af W:=dx d;exact qdu rfl rfl ⟨Ext.refl _,(c 17 (by decide))⟩
  .intro A W d c;have m:Ext af W:=dx d;obtain⟨u,eu,ru⟩:qe4 [1] (A 18) W:=(c 18 (by decide))
   exact qhl rfl eu rfl ⟨Ext.refl _,ru⟩
  .intro A W d c;have m:Ext af W:=dx d;obtain⟨u,eu,ru⟩:qe4 [1] (A 18) W:=(c 18 (by decide))
   exact qhl rfl eu rfl ⟨Ext.refl _,rfl⟩
  .intro A W d c;have m:Ext af W:=dx d;exact qh0 rfl rfl ⟨Ext.refl _,(c 19 (by decide))⟩
  intro A W d c;have m:Ext af W:=dx d;exact qh0 rfl (c 20 (by decide)) ⟨Ext.refl _,rfl⟩
 intro bP aC cc hf;have cL:bP 22 = .int .i64 0:=hf 22 (by decide);have a2:qgv [1] (bP 21) aC:=hf 21 (by decide);obtain⟨dY,d6,b7,_,_⟩:=RSl.val a2;rw[b7]at a2;clear hf;simp only[qcy,Act.put,List.setIfInBounds_toArray,List.set_cons_zero,List.set_cons_succ];rw[cL,b7];clear cL b7;have dy:=Hd a2;have cv:Hid (Ext w aC):=bs.out.trans' cc;have da:Ext bh aC:=cb.trans' cc;clear a2 D bs
 go_wp2_with fail
 have E:=qla (λ_=>True) [true,true,false] [true,true,false] _ _ _ ((RSl.good qac.good).bel du.out (Ext.alloc da _)) (qs4 [true,true,false] (by decide) (qca aC _));rw[show decide (([true,true,false]:List Bool)=[true,true,false])=true by decide]at E;refine E.mono ?_;rintro e dl ⟨rfl,cT⟩;have bK:Ext aC dl:=Ext.trans' ((Ext.refl _).alloc _) cT;clear E cT
 go_wp2_with fail
 have E:=qla (λ_=>True) [true,false,false] [true,false,false] _ _ _ ((RSl.good qac.good).bel dv.out (Ext.alloc (da.trans' bK) _)) (qs4 [true,false,false] (by decide) (qca dl _));rw[show decide (([true,false,false]:List Bool)=[true,false,false])=true by decide]at E;refine E.mono ?_;rintro e dm ⟨rfl,cU⟩;have bL:Ext aC dm:=bK.trans' (Ext.trans' ((Ext.refl _).alloc _) cU);clear E cU
 go_wp2_with fail
 have E:=qju (λ_=>True) [1,2] [1,2] _ _ _ ((RSl.good qad.good).bel dw.out (Ext.alloc (cc.trans' bL) _)) (qkw [1,2] (by decide) (by decide) (qca dm _));rw[show decide (([1,2]:List Int)=[1,2])=true by decide]at E;refine E.mono ?_;rintro e dn ⟨rfl,cV⟩;have bM:Ext aC dn:=bL.trans' (Ext.trans' ((Ext.refl _).alloc _) cV);clear E cV
 go_wp2_with fail
 have E:=qju (λ_=>True) [1] [1] _ _ _ ((RSl.good qad.good).bel dy.out (Ext.alloc bM _)) (qkw [1] (by decide) (by decide) (qca dn _));rw[show decide (([1]:List Int)=[1])=true by decide]at E;refine E.mono ?_;rintro e dS ⟨rfl,cW⟩;have cw:Hid (Ext w dS):=cv.out.trans' (bM.trans' (Ext.trans' ((Ext.refl _).alloc _) cW));clear E cW
 go_wp2_with fail
 go_ret;exact⟨rfl,cw.out⟩
end
end Go.Proofs.YtegenalcheooeaaGreat
