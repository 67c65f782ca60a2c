/- Of the proof of a law of the suites: RefArcs, RefBuild, RefMut, RefChange, RefMut2, LMut3, RefMut3, LScore, RFailsS, RefScore. -/
import Derived.Test.YtegenalcheooeaaGreatAF01
import Derived.Test.YtegenalcheooeaaGreatAF02
import Derived.Test.YtegenalcheooeaaGreatAF07
import Derived.Test.YtegenalcheooeaaGreatAF10
import Derived.Test.YtegenalcheooeaaGreatAF11
import Derived.Test.YtegenalcheooeaaGreatB10
set_option linter.unusedSectionVars false
set_option linter.unusedSimpArgs false
set_option linter.unusedVariables false
namespace Go.Proofs.YtegenalcheooeaaGreat
open Go.RowKit
attribute [local go_sem] cell?_exto
set_option maxHeartbeats 16000000
set_option maxRecDepth 100000
section
open Go.Shelf
def qvr (S:Nat->Prop) (s:Sy) (w:World) (e:Ending) (w':World):Prop:=∃A c,e = .returned (.slice A s.es.length c)/\qab RAr 4 106 w.heap.size (λq=>S q/\q<w.heap.size) w' (s.es.map (qfy s)) (.slice A s.es.length c)/\Ext w w'
theorem ArcsOf_c (S:Nat->Prop) (s:Sy) (al:qah s) (cs:List Value) (w:World) (hx:RSy S w s cs) :
  Calls Tryz.prog 199 #[.agg cs.toArray] w (qvr S s w):=by
 obtain⟨T,hT⟩:∃T:Nat->Prop,(λq=>S q/\q<w.heap.size)=T:=⟨_,rfl⟩
 have aK:RSy T w s cs:=RSy.good.mono hx λb hb h=>by rw[<- hT];exact⟨h,hb⟩
 have HT:Hid (∀q,T q->q<w.heap.size):=λq h=>by rw[<- hT]at h;exact h.2
 have HP:Hid (∀e w',(∃A c,e = .returned (.slice A s.es.length c)/\qab RAr 4 106 w.heap.size T w' (s.es.map (qfy s)) (.slice A s.es.length c)/\Ext w w')->qvr S s w e w'):=λe w' h=>by rw[<- hT]at h;exact h
 obtain⟨jn,vl,ve,rfl,ap,ao⟩:=id aK;obtain⟨Al,cl,rfl,_,_⟩:=ap.val;obtain⟨Ae,ce,rfl,_,_⟩:=ao.val;have HL:=Hd ap;have HE:=Hd ao;have aP:=Hd al;have a2:=al.2.2.2.1;clear hx aK ap ao hT al;obtain⟨O,V⟩:=nm (w.alloc (.cells #[.int .i64 s.n,.slice Al s.ls.length cl,.slice Ae s.es.length ce] 25));have aB:Ext w O:=by rw[<- V];exact(Ext.refl w).alloc _
 have C:qaf O w.heap.size 25 [.int .i64 s.n,.slice Al s.ls.length cl,.slice Ae s.es.length ce]:=by rw[<- V];exact qaf.new w 25 _
 obtain⟨B0,D⟩:=nm (w.heap.size);rw[D]at C;have af:=Hd D;have ar:=Hd C;have au:=Hd aB;have aQ:=Hd V;have x2:=C.cell 2 _;have xz:=C.lt;clear V aB C D
 go_enter Tryz.func199,Tryz.ntmps199
 go_upto_region 1 with (fail)
 rw[aQ.out,af.out]
 go_wp2_with fail
 clear x2 xz
 go_loopw [3,4] (λv3 vi wr=>∃(k:Nat) (M:Option Addr) (N:Nat),k<=s.es.length/\vi = .int .i64 k/\v3 = .slice M k N/\Ext O wr/\Hid (qab RAr 4 106 O.heap.size T wr ((s.es.take k).map (qfy s)) (.slice M k N))) (λ_ vi _=>s.es.length-(intOf vi).toNat)
 case atStart=>exact⟨0,none,0,Nat.zero_le _,rfl,rfl,Ext.refl _,qab.nil ..⟩
 obtain⟨k,M,N,hk,rfl,rfl,hE,hO⟩:=hrel;have aa:=ar.out.ext hE;have x1:=aa.cell 1 _;have x2:=aa.cell 2 _;have xz:=aa.lt;clear aa;have hX:=au.out.trans' hE
 by_cases I:k<s.es.length
 .have aE:=qjs aP.out k I;obtain⟨b,a4,aX,rfl,hb,aC,hl,hr,G⟩:=(qa3.good.bel HE.out hX).get k I;obtain⟨jf,aq,ad,rfl⟩:=id hr;obtain⟨d0,d1,d2⟩:=g3 G;have aj:=qeo I;have r:(s.es.take (k+1)).map (qfy s)=(s.es.take k).map (qfy s)++[qfy s s.es[k]]:=by rw[List.take_succ_eq_append_getElem I,List.map_append];rfl
  obtain⟨⟨f,l,t⟩,aL⟩:∃x,s.es[k]=x:=⟨_,rfl⟩
  rw[aL]at d0 d1 d2 aj jf aq ad r;rw[aj]at aE;simp only[qfy]at d0 d1 d2 aE jf aq ad r;obtain⟨J,rfl⟩:∃J:Nat,l=(J:Int):=⟨l.toNat,by omega⟩
  have aG:J<s.ls.length:=by omega
  rw[qfd s.ls J aG]at r;obtain⟨b2,L,aY,rfl,a1,ae,aU,am,y⟩:=(qaa.good.bel HL.out hX).get J aG;obtain⟨jg,vx,rfl,aJ⟩:=id am;obtain⟨Ax,cx,rfl,_,_⟩:=aJ.val;obtain⟨e0,e1⟩:=g2 y;have aw:=Hd r;have ag:=Hd am;have HJ:Hid (I64 f/\I64 t):=⟨jf,ad⟩
  obtain⟨x,hx⟩:=nm (s.ls[J]);rw[hx]at e0 e1 ag aw;obtain⟨gx,ab⟩:=nm (x.g);obtain⟨lx,ai⟩:=nm (x.v.length);rw[ab]at e0;rw[ai]at e1;rw[ab,ai]at ag;have aN:=Hd ab;have z:=λq hq=>hO.out.own_lt (b:=q) hq
  have aZ:=HT.out b aC;have aW:=HT.out b2 ae;have aF:((s.es.take k).map (qfy s)).length=k:=by rw[List.length_map,List.length_take];omega
  have av:=Hd aF;have aT:k+1<=s.es.length:=I;have a3:B0<O.heap.size:=ar.out.lt;clear G y hl aU aC ae hr am hx aL aj r jf aq ad aJ jg ab ai aF
  go_wp2_with fail
  obtain⟨We,X⟩:=nm (wr.alloc (.cells #[.int .i64 f,.int .i64 (J:Int),.int .i64 t] 88));have E:Ext wr We:=by rw[<- X];exact(Ext.refl _).alloc _
  have F:qaf We wr.heap.size 88 [.int .i64 f,.int .i64 (J:Int),.int .i64 t]:=by rw[<- X];exact qaf.new wr 88 _
  obtain⟨Be,aA⟩:=nm (wr.heap.size);rw[aA]at F;rw[X,aA];have k0:=F.cell 0 _;have k1:=F.cell 1 _;have k2:=F.cell 2 _;have aM:=Ext.keep E x1;have ay:=Ext.keep E e0;have az:=Ext.keep E e1;have ak:¬ (Value.slice M k N).ownBlock=some Be:=λe=>by have:=(z _ e).2;omega
  have aV:¬ (Value.slice M k N).ownBlock=some B0:=λe=>by have:=(z _ e).1;omega
  have aH:¬ (Value.slice M k N).ownBlock=some b2:=λe=>by have:=(z _ e).1;have:=af.out;omega
  clear x1 x2 e0 e1 d0 d1 d2 X F;refine qek (λW=>W.cell? ⟨Be,0,none⟩=some (.int .i64 f)/\W.cell? ⟨Be,1,none⟩=some (.int .i64 (J:Int))/\W.cell? ⟨Be,2,none⟩=some (.int .i64 t)/\W.cell? ⟨B0,1,none⟩=some (.slice (some ⟨b2,L,none⟩) s.ls.length cl)/\W.cell? ⟨b2,L+J*2,none⟩=some (.int .i64 gx)/\W.cell? ⟨b2,L+J*2+1,none⟩=some (.slice Ax lx cx)) (by kernel_rfl) (by rfl) (by kernel_rfl) ⟨k0,k1,k2,aM,ay,az⟩ (λhHeld=>?_);dsimp only[List.dropLast,List.getLastD,List.getLast?,List.getLast];obtain⟨Wd,ah⟩:=nm (We.drew);have Y:Ext wr Wd:=ah ▸ Below.drew E;rw[ah]at hHeld ⊢;clear ah k0 k1 k2 aM ay az E
  have aI:RAr (λq=>T q/\(Value.slice M k N).ownBlock≠some q) Wd ⟨f,x,t⟩ [.int .i64 f,.int .i64 gx,.slice Ax lx cx,.int .i64 t]:=by
   have h1:=RLb.good.mono (RLb.good.bel ag.out Y) (S':=λq=>T q/\(Value.slice M k N).ownBlock≠some q) λq _ h=>⟨h,λe=>by have:=(z _ e).1;have:=HT.out q h;have:=af.out;omega⟩
   rw[<- aN.out]at h1 ⊢;exact⟨HJ.out.1,HJ.out.2,_,rfl,qi4 h1⟩
  obtain⟨g8,c8,w8,an,ac,aD,aS,u⟩:=qcw RAr.good (by decide) O.heap.size 106 177 (.agg #[.int .i64 0,.int .i64 0,.slice none 0 0,.int .i64 0]) 48 Tryz.underlying177 qo2 rfl (by decide) T Wd _ (.slice M k N) ⟨f,x,t⟩ [.int .i64 f,.int .i64 gx,.slice Ax lx cx,.int .i64 t]
   (hO.out.ext RAr.good Y) aI (Nat.le_trans hE.size Y.size) (by rw[av.out];omega)
  rw[<- aw.out]at ac;rw[av.out]at ac an;have aO:=Hd ac;have aR:Hid (Ext O w8):=Bt.new (hE.trans' Y) aD λq _ h=>(z q h).1
  have ax:=Hd an;clear an ac aD aS z hO aI
  (refine tk 0 ?_;try simp only[qae])
  (refine tk 1 ?_;try simp only[qae])
  (refine tk 2 ?_;try simp only[qae])
  (refine tk 3 ?_;try simp only[qae])
  (refine tk 4 ?_;try simp only[qae])
  (refine tk 5 ?_;try simp only[qae])
  (refine tk 6 ?_;try simp only[qae])
  (refine tk 7 ?_;try simp only[qae])
  (refine tk 8 ?_;try simp only[qae])
  (refine tk 9 ?_;try simp only[qae])
  (refine tk 10 ?_;try simp only[qae])
  (refine tk 11 ?_;try simp only[qae])
  refine wpAnyH_ready (rs:=[12]) (by kernel_rfl) (by simp) ?_;refine AllReadyH.cons rfl (λK hK=>?_) AllReadyH.nil;go_simp;have o:=Ext.k6 ((Ext.refl Wd).alloc (.cells #[.int .i64 f,.int .i64 gx,.slice Ax lx cx,.int .i64 t] 106)) hHeld;refine hK.out _ _ o (λ_=>?_);clear hK K
  try simp only[qae]
  refine wpAnyH_ready (rs:=[13]) (by kernel_rfl) (by simp) ?_;refine AllReadyH.cons rfl (λK hK=>?_) AllReadyH.nil;refine qf8 rfl _ _ _ rfl _ _ _ rfl rfl ax.out ?_;refine hK.out _ _ ⟨u.cell o.1 ak,u.cell o.2.1 ak,u.cell o.2.2.1 ak,u.cell o.2.2.2.1 aV,u.cell o.2.2.2.2.1 aH,u.cell o.2.2.2.2.2 aH⟩ (λU=>?_);clear hK K
  try simp only[qae]
  refine wpAnyH_done (by kernel_rfl) ?_ _;show Oper.wp _ _ _ _ _ _;go_simp;clear hHeld o U u
  go_wp2_with fail
  go_roundw
  case rel=>exact⟨k+1,some ⟨g8,0,none⟩,c8,aT,by go_num,rfl,aR.out,aO⟩
  simp[intOf];omega
 obtain rfl:k=s.es.length:=by omega
 have hO:=hO.out;rw[List.take_length]at hO;have HO:=Hd (qab.base hO (base':=w.heap.size) au.out.size);clear hO x1
 go_wp2_with fail
 go_ret;exact HP.out _ _ ⟨M,N,rfl,HO.out,hX⟩
end
section
open Go.Shelf
def qyp (S:Nat->Prop) (s:Sy) (w:World) (e:Ending) (w':World):Prop:=∃cs,e = .returned (.tuple #[.agg cs.toArray,.int .i64 0])/\RSy (λb=>S b\/w.heap.size<=b) w' s cs/\Ext w w'
theorem rbuild_c (S:Nat->Prop) (n:Int) (hn:1<=n/\n<=20000) (rs:List Ar) (v:Value) (w:World) (hx:RSl RAr 4 S w rs [v]) (ag:∀a∈rs,(0<=a.f/\a.f<n)/\0<=a.t/\a.t<n) (ah:∀a∈rs,qa0 a.l=true) (hl:rs.length<=100000) (hL:(rLs rs rs.length).length<=4000) :
  Calls Tryz.prog 200 #[.int .i64 n,v] w (qyp S (qji n rs) w):=by
 obtain⟨T,hT⟩:∃T:Nat->Prop,T=λb=>S b/\b<w.heap.size:=⟨_,rfl⟩
 have am:RSl RAr 4 T w rs [v]:=(RSl.good RAr.good).mono hx λb hb h=>by rw[hT];exact⟨h,hb⟩
 have HT:Hid (∀b,T b->S b/\b<w.heap.size):=λb h=>by rw[hT]at h;exact h
 have ad:=Hd (λW (hW:Ext w W)=>rused_c T n (by unfold I64;omega) rs v W ((RSl.good RAr.good).bel am hW) hl hL);clear hT am;obtain⟨A,c,rfl,hc,aA⟩:=hx.val;have HX:=Hd hx;have aq:=Hd ag;have ar:=Hd ah;obtain⟨s,hs⟩:=nm (qji n rs);rw[hs]at ad ⊢;obtain⟨aB,aC⟩:=hn;have aD:¬ n<1:=by omega
 have aE:¬ 20000<n:=by omega
 clear hx ag ah hs;obtain⟨W0,G⟩:=nm (w.alloc (.cells #[.int .i64 0,.slice none 0 0,.slice none 0 0] 25));have ae:Ext w W0:=by rw[<- G];exact(Ext.refl w).alloc _
 have I:qaf W0 w.heap.size 25 [.int .i64 0,.slice none 0 0,.slice none 0 0]:=by rw[<- G];exact qaf.new w 25 _
 obtain⟨C,J⟩:=nm (w.heap.size);rw[J]at I;have D:=Hd J;have an:=Hd I;have ac:=Hd ae;have av:=Hd G;clear G ae I J
 go_enter Tryz.func200,Tryz.ntmps200
 go_upto_region 1 with (fail)
 rw[av.out,D.out]
 go_wp2_with fail
 go_loopw [6] (λY wr=>∃k:Nat,k<=rs.length/\Y = .int .i64 k/\Ext W0 wr) (λY _=>rs.length-(intOf Y).toNat)
 case atStart=>exact⟨0,Nat.zero_le _,rfl,Ext.refl _⟩
 obtain⟨k,hk,rfl,E⟩:=hrel
 by_cases y:k<rs.length
 .obtain ⟨b,az,ax,rfl,hb,L,U,hr,o⟩:=((RSl.good RAr.good).bel HX.out (ac.out.trans' E)).get k y;obtain⟨u,rfl,_,_,z⟩:=qld hr;have d0:=o.get 0 _;have d3:=o.get 3 _;simp only[Nat.add_zero]at d0;obtain⟨⟨q1,q2⟩,q3,q4⟩:=aq.out _ (List.getElem_mem y);obtain⟨f,hf⟩:=nm (rs[k].f);rw[hf]at d0 q1 q2;obtain⟨t,ht⟩:=nm (rs[k].t);rw[ht]at d3 q3 q4;have q5:¬ f<0:=by omega
  have q6:¬ n<=f:=by omega
  have q7:¬ t<0:=by omega
  have q8:¬ n<=t:=by omega
  have O:k+1<=rs.length:=y;clear o hr z U L hf ht
  go_wp2_with fail
  go_roundw
  case rel=>exact⟨k+1,O,by go_num,E⟩
  simp[intOf];omega
 obtain rfl:k=rs.length:=by omega
 have ap:=Hd E;obtain⟨w9,rfl⟩:∃w9,w9=wr:=⟨_,rfl⟩
 clear y E
 go_wp2_with fail
 go_loopw [7] (λY wr=>∃k:Nat,k<=rs.length/\Y = .int .i64 k/\Ext W0 wr) (λY _=>rs.length-(intOf Y).toNat)
 case atStart=>exact⟨0,Nat.zero_le _,rfl,ap.out⟩
 obtain⟨k,hk,rfl,E⟩:=hrel;have F:=ac.out.trans' E
 by_cases y:k<rs.length
 .obtain ⟨b,az,ax,rfl,hb,L,U,hr,o⟩:=((RSl.good RAr.good).bel HX.out F).get k y;obtain⟨u,rfl,_,_,z⟩:=qld hr;have d1:=o.get 1 _;have d2:=o.get 2 _;have N:=λW (hW:Ext wr W)=>qp5 S rs[k].l _ W (RLb.good.bel z hW)
  rw[ar.out _ (List.getElem_mem y)]at N;obtain⟨g,hg⟩:=nm (rs[k].l.g);rw[hg]at d1 N;have O:k+1<=rs.length:=y;clear o hr z U L hg
  go_wp2_with fail
  refine(N _ (Ext.refl _)).mono ?_;rintro e w4 ⟨rfl,ay⟩
  go_wp2_with fail
  go_roundw
  case rel=>exact⟨k+1,O,by go_num,E.trans' ay⟩
  simp[intOf];omega
 obtain rfl:k=rs.length:=by omega
 have aj:=ad.out wr F;have ao:=Hd F;have aa:=Hd (an.out.ext E);clear y E F hk
 go_wp2_with fail
 refine aj.mono ?_;rintro e w5 ⟨cs,rfl,V,X⟩;obtain⟨j1,v1,v2,rfl,ak,al⟩:=id V;obtain⟨A1,c1,rfl,_,_⟩:=ak.val;obtain⟨A2,c2,rfl,_,_⟩:=al.val;have au:=Hd V;have aw:Hid (Ext w w5):=ao.out.trans' X;have r:=aa.out.ext X;have HZ:Hid (C<wr.heap.size):=aa.out.lt;have ab:=Hd r;have r0:=r.cell 0 _;have r1:=r.cell 1 _;have r2:=r.cell 2 _;have aF:=r.frozen 0;have aG:=r.frozen 1;have aH:=r.frozen 2;have rl:=r.lt;clear aj V ak al X r
 go_wp2_with fail
 have M:=(((ab.out.set 0 (.int .i64 s.n)).set 1 (.slice A1 s.ls.length c1)).set 2 (.slice A2 s.es.length c2)).ext ((Ext.refl _).alloc (.cells #[.int .i64 s.n,.slice A1 s.ls.length c1,.slice A2 s.es.length c2] 25))
 have ai:Bt (λq=>q=C) w5 ((((w5.setCell ⟨C,0,none⟩ (.int .i64 s.n)).setCell ⟨C,1,none⟩ (.slice A1 s.ls.length c1)).setCell ⟨C,2,none⟩ (.slice A2 s.es.length c2)).alloc (.cells #[.int .i64 s.n,.slice A1 s.ls.length c1,.slice A2 s.es.length c2] 25)) :=
  (Bt.set (Z:=λq=>q=C) (p:=⟨C,2,none⟩) (Bt.set (Z:=λq=>q=C) (p:=⟨C,1,none⟩) (Bt.set (Z:=λq=>q=C) (p:=⟨C,0,none⟩) (Bt.refl _ _) (.inr rfl) _) (.inr rfl) _) (.inr rfl) _).alloc _
 have af:=Bt.new aw.out ai λq _ h=>by have:=D.out;omega
 refine bodyPost_ret (qg8 rfl _ _ C _ _ _ _ rfl rfl (M.cell 0 _) (M.cell 1 _) (M.cell 2 _)) rfl ⟨[.int .i64 s.n,.slice A1 s.ls.length c1,.slice A2 s.es.length c2],rfl,?_,af⟩;have hz:C<wr.heap.size:=HZ.out;refine RSy.good.mono (RSy.good.move au.out (ai.kp λq _ hq h=>?_)) λq _ h=>?_
 .have:=D.out
  rcases hq with hq | hq
  .have:=(HT.out q hq).2;omega
  omega
 have:=D.out
 rcases h with h | h
 .exact .inl (HT.out q h).1
 exact .inr (by omega)
end
section
open Go.Shelf
theorem rLs_mut {s:Sy} {m:Mu} (c:qah s) (f:qbq s m):(rLs (qdl s m) (qdl s m).length).length<=4000:=by
 have e:rLs (qdl s m) (qdl s m).length=(qcv s.n (qdl s m)).ls:=congrArg Sy.ls (qu0 s.n (qdl s m));have h:(qcv s.n (qdl s m)).ls=qc7 (qas (qdl s m) [] []).1:=rfl;rw[e,h,qwb];have:=(qo5 c f).1;have:=c.2.2.1;omega
def rMutPost (S:Nat->Prop) (s:Sy) (m:Mu) (w:World) (e:Ending) (w':World):Prop:=∃cs,e = .returned (.agg cs.toArray)/\RSy (λb=>(S b/\b<w.heap.size)\/w.heap.size<=b) w' (qde s m) cs/\Ext w w'
theorem qvo (S:Nat->Prop) (s:Sy) (o:qah s) (m:Mu) (hm:qbq s m) (cs cm:List Value) (w:World) (hx:RSy S w s cs) (bJ:RMu S w m cm) :
  Calls Tryz.prog 132 #[.agg cs.toArray,.agg cm.toArray] w (rMutPost S s m w):=by
 obtain⟨T,hT⟩:∃T:Nat->Prop,(λq=>S q/\q<w.heap.size)=T:=⟨_,rfl⟩
 have aI:RSy T w s cs:=RSy.good.mono hx λb hb h=>by rw[<- hT];exact⟨h,hb⟩
 have HT:Hid (∀q,T q->S q/\q<w.heap.size):=λq h=>by rw[<- hT]at h;exact h
 clear hT;have aB:=λS v W h=>rbuild_c S s.n ⟨o.1,o.2.1⟩ (qdl s m) v W h (λa ha=>⟨(qhm o hm (Nat.le_refl _) ha).1,(qhm o hm (Nat.le_refl _) ha).2.1⟩) (λa ha=>qrm o (qhm o hm (Nat.le_refl _) ha).2.2) (by have:=qjp s m s.es.length;have:=o.2.2.2.1;show(muP s m s.es.length).length<=_;omega) (rLs_mut o hm)
 rw[qu0]at aB;have ad:=λW (hW:Ext w W)=>ArcsOf_c _ s o cs W (RSy.good.bel aI hW)
 obtain⟨jn,vl,ve,rfl,aH,bl⟩:=id aI;obtain⟨Al,cl,rfl,_,_⟩:=aH.val;obtain⟨Ae,ce,rfl,_,_⟩:=bl.val;obtain⟨jk,je,jt,jl,rfl⟩:=bJ;have HL:=Hd aH;have bu:=Hd aB;have bw:=Hd o;have HM:=Hd hm;have aL:=Hd ad;have b0:=o.2.2.2.1;clear hx aI aH bl aB o hm ad;obtain⟨O,M⟩:=nm (((w.alloc (.cells #[.int .i64 s.n,.slice Al s.ls.length cl,.slice Ae s.es.length ce] 25)).alloc (.cells #[.int .i64 m.k,.int .i64 m.e,.int .i64 m.t,.int .i64 m.l] 94)).alloc (.cells #[.int .i64 0,.slice none 0 0,.slice none 0 0] 25));have ba:Ext w O:=by rw[<- M];exact(((Ext.refl w).alloc _).alloc _).alloc _
 have bi:O.heap.size=w.heap.size+3:=by rw[<- M];simp
 have bb:qaf O w.heap.size 25 [.int .i64 s.n,.slice Al s.ls.length cl,.slice Ae s.es.length ce]:=by
  rw[<- M];exact((qaf.new w _ _).ext ((Ext.refl _).alloc _)).ext ((Ext.refl _).alloc _)
 have bc:qaf O (w.heap.size+1) 94 [.int .i64 m.k,.int .i64 m.e,.int .i64 m.t,.int .i64 m.l]:=by rw[<- M];exact qg3 ..
 have ae:qaf O (w.heap.size+1+1) 25 [.int .i64 0,.slice none 0 0,.slice none 0 0]:=by rw[<- M];exact qgy ..
 have aV:=Hd M;have N:=Hd bb;have aq:=Hd bc;have af:=Hd ae;have aW:=Hd ba;clear M bb bc ae ba
 go_enter Tryz.func132,Tryz.ntmps132
 go_upto_region 1 with (fail)
 rw[aV.out];obtain⟨B1,aw⟩:=nm (w.heap.size+1);rw[aw]at aq af;obtain⟨X,ax⟩:=nm (B1+1);rw[aw,ax];rw[ax]at af;have HN:Hid (B1=w.heap.size+1/\X=w.heap.size+2/\O.heap.size=w.heap.size+3):=⟨by omega,by omega,bi⟩
 clear aV aw ax bi;have a0:=N.out.cell 0 _;have a1:=N.out.cell 1 _;have a2:=N.out.cell 2 _;have az:=N.out.lt;have ad:=aL.out O aW.out;clear aL
 go_wp2_with fail
 refine ad.mono ?_;rintro e Y ⟨At,ct,rfl,a8,V⟩;have au:Hid (Ext w Y):=aW.out.trans' V;have aK:=Hd a8.slx;have aM:=Hd (N.out.ext V);have aN:=Hd (aq.out.ext V);have aO:=Hd (af.out.ext V);have av:Hid (O.heap.size<=Y.heap.size):=V.size;clear a0 a1 a2 az ad a8 V N aq af;have q1:=HM.out.1.1;have q2:=HM.out.1.2
 go_wp2_with fail
 go_loopw [5,7] (λv8 bT wr=>∃(k:Nat) (Ao:Option Addr) (co:Nat),k<=s.es.length/\bT = .int .i64 k/\v8 = .slice Ao (muP s m k).length co/\Ext Y wr/\Hid (qab RAr 4 106 Y.heap.size T wr (muP s m k) (.slice Ao (muP s m k).length co))) (λ_ v _=>s.es.length-(intOf v).toNat)
 case atStart=>exact⟨0,none,0,Nat.zero_le _,rfl,rfl,Ext.refl _,qab.nil ..⟩
 obtain⟨k,Ao,co,hk,rfl,rfl,hE,hO⟩:=hrel;have ah:=Hd hE;have F:=aM.out.ext hE;have r:=aN.out.ext hE;have bM:=hE.size
 by_cases aD:k<s.es.length
 .have hX:=au.out.trans' hE;have bd:=qjs bw.out k aD;have bI:k<(s.es.map (qfy s)).length:=by rw[List.length_map];exact aD
  obtain⟨b,b6,bW,rfl,hb,hl,hr,u⟩:=(aK.out.bel RAr.good hE).get k bI;have hr:=RAr.good.mono hr (S':=T) λq _ h=>h.1.1
  rw[List.getElem_map]at hr;obtain⟨v4,rfl,jf,am,C⟩:=qld hr;have d0:=u.get 0 _;have d1:=u.get 1 _;have d2:=u.get 2 _;have d3:=u.get 3 _;simp only[Nat.add_zero]at d0;have ak:=qeo aD;obtain⟨⟨f,l,t⟩,bm⟩:∃x,s.es[k]=x:=⟨_,rfl⟩
  rw[bm]at d0 d1 d3 ak jf am C;rw[ak]at bd;simp only[qfy]at d0 d1 d2 d3 bd jf am C;obtain⟨li,rfl⟩:∃li:Nat,l=(li:Int):=⟨l.toNat,by omega⟩
  have b4:li<s.ls.length:=by omega
  obtain⟨Ax,nx,cx,rfl⟩:∃A n c,v4 = .slice A n c:=by
   obtain⟨_,v5,e,bK⟩:=C;simp only[List.cons.injEq,and_true]at e;obtain⟨A,c,h,_⟩:=bK.val;exact⟨A,_,c,e.2.trans h⟩
  have aF:=qkl s m k;rw[ak]at aF;have aa:=Hd aF;have HJ:Hid (I64 f/\I64 t):=⟨jf,am⟩
  obtain⟨x,hx⟩:=nm (qbg s.ls (li:Int));rw[hx]at d1 C;have aQ:=Hd hx;obtain⟨gx,aC⟩:=nm (x.g);rw[aC]at d1 C;have ai:=Hd aC;have aR:=Hd C;have bL:=qjp s m k;obtain⟨ys,bn⟩:=nm (muP s m k);rw[bn]at hO aa bL ⊢;have bo:=r.cell 0 _;have bp:=r.cell 1 _;have bq:=r.cell 2 _;have br:=r.cell 3 _;have aY:=F.cell 1 _;have bS:=r.lt;have aZ:=F.lt;clear u hl hr hx bm ak aF jf am C hE bn F r aC
  go_upto_region 7 with (fail)
  obtain⟨Ba,aA⟩:=nm (wr.heap.size);obtain⟨Wa,aj⟩:=nm (wr.alloc (.cells #[.int .i64 f,.int .i64 gx,.slice Ax nx cx,.int .i64 t] 106));have E:qaf Wa Ba 106 [.int .i64 f,.int .i64 gx,.slice Ax nx cx,.int .i64 t]:=by rw[<- aj,<- aA];exact qaf.new wr _ _
  have D:Ext wr Wa:=by rw[<- aj];exact(Ext.refl _).alloc _
  have ab:wr.heap.size<=Ba:=by omega
  rw[aj,aA];have bN:=Ext.keep D bo;have bO:=Ext.keep D bp;have bP:=Ext.keep D bq;have bQ:=Ext.keep D br;have bB:=Ext.keep D aY;have a3:=E.cell 0 _;have a4:=E.cell 1 _;have a5:=E.cell 2 _;have a6:=E.cell 3 _;have a7:=E.lt;have bE:=E.frozen 1;have bF:=E.frozen 2;have bG:=E.frozen 3;have bR:B1<Wa.heap.size:=by have:=D.size;omega
  have bC:w.heap.size<Wa.heap.size:=by have:=D.size;omega
  have ag:=Hd E;have L:=Hd D;have aT:=Hd (RLb.good.bel aR.out D);clear aj aA E D bo bp bq br aY d0 d1 d2 d3 bS aZ
  go_upto_if 26 with (fail)
  go_cut [] (λwx=>∃(a:Ar) (va:Value),Hid (qc4 s m k ⟨f,(li:Int),t⟩=[a]/\Ext wr wx/\qaf wx Ba 106 [.int .i64 a.f,.int .i64 a.l.g,va,.int .i64 a.t]/\RAr T wx a [.int .i64 a.f,.int .i64 a.l.g,va,.int .i64 a.t]))
  case first =>
   by_cases he:(k:Int)=m.e
   .have r0:((k:Int) == m.e)=true:=beq_iff_eq.2 he
    rcases HM.out.2 with⟨g1,g2,g3⟩ | ⟨g1,g2,g3⟩ | ⟨g1,g2,g3⟩
    .have r1:(m.k == 1)=true:=beq_iff_eq.2 g1;have an:Hid (qc4 s m k ⟨f,(li:Int),t⟩=[]):=by show _=_;rw[qc4,if_pos he,if_pos g1]
     clear he g1 g2 g3
     go_wp2_with fail
     refine⟨⟨k+1,Ao,co,by omega,by go_num,by rw[aa.out,an.out,List.append_nil],ah.out.trans' L.out,?_⟩,by simp[intOf];omega⟩;show qab _ _ _ _ _ _ _ _;rw[aa.out,an.out,List.append_nil];exact hO.out.ext RAr.good L.out
    .have r1:(m.k == 1)=false:=beq_eq_false_iff_ne.2 (by omega);have r2:(m.k == 2)=true:=beq_iff_eq.2 g1;have G:Hid (qc4 s m k ⟨f,(li:Int),t⟩=[⟨f,x,m.t⟩]):=by show _=_;rw[qc4,if_pos he,if_neg (by omega),if_pos g1];show[Ar.mk f (qbg s.ls (li:Int)) m.t]=_;rw[aQ.out]
     clear he g1 g2 g3
     go_wp2_with fail
     go_meet
     have ac:Ext wr (Wa.setCell ⟨Ba,3,none⟩ (.int .i64 m.t)):=Ext.set (p:=⟨Ba,3,none⟩) L.out ab _;refine⟨⟨f,x,m.t⟩,.slice Ax nx cx,G.out,ac,?_,HJ.out.1,jt,_,rfl,qi4 ?_⟩
     .simp only[ai.out];exact ag.out.set 3 _
     rw[ai.out];exact RLb.good.bel aR.out ac
    have r1:(m.k == 1)=false:=beq_eq_false_iff_ne.2 (by omega);have r2:(m.k == 2)=false:=beq_eq_false_iff_ne.2 (by omega);have bf:m.l.toNat<s.ls.length:=by omega
    obtain⟨b3,bU,bX,bD,bZ,_,_,al,J⟩:=(qaa.good.bel HL.out (au.out.trans' ah.out)).get m.l.toNat bf;subst bD;obtain⟨b5,b7,rfl,ao⟩:=id al;obtain⟨A3,c3,rfl,_,_⟩:=ao.val;have p0:=Ext.keep L.out (J.get 0 _);have p1:=Ext.keep L.out (J.get 1 _);simp only[Nat.add_zero]at p0;have be:qbg s.ls m.l=s.ls[m.l.toNat]:=by simp[qbg,bf]
    have G:Hid (qc4 s m k ⟨f,(li:Int),t⟩=[⟨f,s.ls[m.l.toNat],t⟩]):=by show _=_;rw[qc4,if_pos he,if_neg (by omega),if_neg (by omega)];show[Ar.mk f (qbg s.ls m.l) t]=_;rw[be]
    obtain⟨y,hy⟩:=nm (s.ls[m.l.toNat]);rw[hy]at p0 p1 G al;have bx:=Hd al;have b1:0<=m.l:=g3.1;have b2:m.l<(s.ls.length:Int):=g3.2;clear he g1 g2 g3 J al ao be hy
    go_wp2_with fail
    go_meet
    have ac:Ext wr ((Wa.setCell ⟨Ba,1,none⟩ (.int .i64 y.g)).setCell ⟨Ba,2,none⟩ (.slice A3 y.v.length c3)):=Ext.set (p:=⟨Ba,2,none⟩) (Ext.set (p:=⟨Ba,1,none⟩) L.out ab _) ab _;exact⟨⟨f,y,t⟩,_,G.out,ac,(ag.out.set 1 _).set 2 _,HJ.out.1,HJ.out.2,_,rfl,qi4 (RLb.good.bel bx.out ac)⟩
   have r0:((k:Int) == m.e)=false:=beq_eq_false_iff_ne.2 he;have G:Hid (qc4 s m k ⟨f,(li:Int),t⟩=[⟨f,x,t⟩]):=by show _=_;rw[qc4,if_neg he,qfy,aQ.out]
   clear he
   go_wp2_with fail
   go_meet
   refine⟨⟨f,x,t⟩,.slice Ax nx cx,G.out,L.out,?_,HJ.out.1,HJ.out.2,_,rfl,qi4 ?_⟩
   .simp only[ai.out];exact ag.out
   rw[ai.out];exact aT.out
  rename World=>Wc
  obtain⟨a,va,hh⟩:=hcut;have HA:=Hd hh.out.1;have ar:=Hd hh.out.2.1;have U:=hh.out.2.2.1;have aS:=Hd hh.out.2.2.2;clear hh;clear a3 a4 a5 a6 a7 bE bF bG bN bO bP bQ bB bR bC ag L aT;have a3:=U.cell 0 _;have a4:=U.cell 1 _;have a5:=U.cell 2 _;have a6:=U.cell 3 _;have a7:=U.lt;have a9:=hO.out.ext RAr.good ar.out;have aE:=λq hq=>hO.out.own_lt (b:=q) hq
  obtain⟨g2,c2,w2,bh,bg,ae,_,_⟩:=qcw RAr.good (by decide) Y.heap.size 106 177 (.agg #[.int .i64 0,.int .i64 0,.slice none 0 0,.int .i64 0]) 48 Tryz.underlying177 qo2 rfl (by decide) T Wc ys (.slice Ao ys.length co) a _ a9 (RAr.good.mono aS.out λq _ hq=>⟨hq,λe=>by have:=(aE q e).1;have:=(HT.out q hq).2;have:=HN.out;have h:O.heap.size<=Y.heap.size:=av.out;omega⟩) (by have:=ar.out.size;omega) (by omega);have bv:=Hd bg;have bz:Hid (Ext Y w2):=Bt.new (ah.out.trans' ar.out) ae λq _ h=>(aE q h).1
  clear U a9 bg ae hO aE aS
  go_wp2_with (at_builtin;refine wpList_append_run rfl _ _ _ rfl _ _ _ rfl rfl bh ?_;clear bh)
  go_roundw
  case rel=>exact⟨k+1,some ⟨g2,0,none⟩,c2,by omega,by go_num,by rw[aa.out,HA.out];simp,bz.out,(by have h:=bv.out;show qab _ _ _ _ _ _ _ _;rw[aa.out,HA.out];simpa using h)⟩
  simp[intOf];omega
 obtain rfl:k=s.es.length:=by omega
 have hb:=bu.out _ _ wr (hO.out.sl RAr.good (by decide));have aX:Hid (Y.heap.size<=wr.heap.size):=bM;have bV:=F.cell 0 _;have aZ:=F.lt;have aP:=Hd (aO.out.ext hE);clear hO F r
 go_wp2_with fail
 refine hb.mono ?_;rintro e w5 ⟨bY,rfl,aG,aJ⟩;obtain⟨j5,v1,v2,rfl,bj,bk⟩:=id aG;obtain⟨A5,c5,rfl,_,_⟩:=bj.val;obtain⟨A6,c6,rfl,_,_⟩:=bk.val;have I:=aP.out.ext aJ;have r0:=I.cell 0 _;have r1:=I.cell 1 _;have r2:=I.cell 2 _;have rz:=I.lt;have f0:=I.frozen 0;have f1:=I.frozen 1;have f2:=I.frozen 2;have bt:=Hd I;have aU:=Hd aG;have bA:=Hd (ah.out.trans' aJ);obtain⟨z,hz⟩:=nm (qcv s.n (qdl s m));rw[hz]at aU ⊢;have HZ:=Hd hz;clear hb aG aJ bj bk I hz
 go_wp2_with fail
 have bH:=((bt.out.set 0 (.int .i64 z.n)).set 1 (.slice A5 z.ls.length c5)).set 2 (.slice A6 z.es.length c6)
 have ap:Bt (λq=>q=X) w5 (((w5.setCell ⟨X,0,none⟩ (.int .i64 z.n)).setCell ⟨X,1,none⟩ (.slice A5 z.ls.length c5)).setCell ⟨X,2,none⟩ (.slice A6 z.es.length c6)) :=
  Bt.set (Z:=λq=>q=X) (p:=⟨X,2,none⟩) (Bt.set (Z:=λq=>q=X) (p:=⟨X,1,none⟩) (Bt.set (Z:=λq=>q=X) (p:=⟨X,0,none⟩) (Bt.refl _ _) (.inr rfl) _) (.inr rfl) _) (.inr rfl) _
 have ay:=bH.ext ((Ext.refl _).alloc (.cells #[.int .i64 z.n,.slice A5 z.ls.length c5,.slice A6 z.es.length c6] 25));refine bodyPost_ret (qsa rfl _ _ X _ _ _ rfl (ay.cell 0 _) (ay.cell 1 _) (ay.cell 2 _)) rfl ⟨[.int .i64 z.n,.slice A5 z.ls.length c5,.slice A6 z.es.length c6],rfl,?_,(Bt.new (au.out.trans' bA.out) ap λq _ h=>by have:=HN.out;omega).alloc _⟩;rw[show qde s m=z from HZ.out];refine RSy.good.mono (RSy.good.bel (RSy.good.move aU.out (ap.kp λq _ h h'=>?_)) ((Ext.refl _).alloc _)) λb _ h=>?_
 .have:=HN.out;have h0:O.heap.size<=Y.heap.size:=av.out;have h1:Y.heap.size<=wr.heap.size:=aX.out
  rcases h with (h | h) | h
  .have:=(HT.out q h).2;omega
  .omega
  omega
 have:=HN.out;have h0:O.heap.size<=Y.heap.size:=av.out;have h1:Y.heap.size<=wr.heap.size:=aX.out
 rcases h with (h | h) | h
 .exact .inl (HT.out b h)
 .exact .inr (by omega)
 exact .inr (by omega)
end
section
open Go.Shelf
def chgB (s:Sy) (m:Mu):Bool:=(decide (0<=m.e) && decide (m.e<s.es.length)) && (if (m.k == 1)=true then (m.t == 0) && (m.l == 0) else if (m.k == 2)=true then decide (0<=m.t) && decide (m.t<s.n) && (m.l == 0) else if (m.k == 3)=true then (m.t == 0) && decide (0<=m.l) && decide (m.l<s.ls.length) else false)
theorem qmh (s:Sy) (m:Mu):chgB s m=true↔qbq s m:=by
 unfold chgB qbq;rw[Bool.and_eq_true,Bool.and_eq_true,decide_eq_true_eq,decide_eq_true_eq];refine and_congr_right λ_=>?_
 split
 .rename_i h;have h:=beq_iff_eq.1 h;rw[Bool.and_eq_true,beq_iff_eq,beq_iff_eq];omega
 rename_i c;have c:m.k≠1:=λe=>c (beq_iff_eq.2 e)
 split
 .rename_i h;have h:=beq_iff_eq.1 h;rw[Bool.and_eq_true,Bool.and_eq_true,beq_iff_eq,decide_eq_true_eq,decide_eq_true_eq];omega
 rename_i f;have f:m.k≠2:=λe=>f (beq_iff_eq.2 e)
 split
 .rename_i h;have h:=beq_iff_eq.1 h;rw[Bool.and_eq_true,Bool.and_eq_true,beq_iff_eq,decide_eq_true_eq,decide_eq_true_eq];omega
 rename_i g;have g:m.k≠3:=λe=>g (beq_iff_eq.2 e)
 simp only[Bool.false_eq_true,false_iff];omega
theorem qvj (S:Nat->Prop) (s:Sy) (m:Mu) (cs G:List Value) (w:World) (L:RSy S w s cs) (E:RMu S w m G) :
  Calls Tryz.prog 131 #[.agg cs.toArray,.agg G.toArray] w λe O=>e = .returned (.bool (chgB s m))/\Ext w O:=by
 obtain⟨jn,vl,ve,rfl,z,y⟩:=id L;obtain⟨U,X,rfl,_,_⟩:=z.val;obtain⟨T,V,rfl,_,_⟩:=y.val;obtain⟨jk,Y,jt,jl,rfl⟩:=E;clear L z y;obtain⟨b,D⟩:=nm (chgB s m);have C:Hid (b=((decide (0<=m.e) && decide (m.e<s.es.length)) && (if (m.k == 1)=true then (m.t == 0) && (m.l == 0) else if (m.k == 2)=true then decide (0<=m.t) && decide (m.t<s.n) && (m.l == 0) else if (m.k == 3)=true then (m.t == 0) && decide (0<=m.l) && decide (m.l<s.ls.length) else false))):=D.symm;rw[D];clear D
 by_cases F:0<=m.e
 case neg =>
  have c:Hid (b=false):=by show _=_;rw[C.out,decide_eq_false F];rfl
  go_enter Tryz.func131,Tryz.ntmps131
  go_wp2_with fail
  go_ret;exact⟨by rw[c.out];rfl,bel⟩
 by_cases M:m.e<s.es.length
 case neg =>
  have c:Hid (b=false):=by show _=_;rw[C.out,decide_eq_true F,decide_eq_false M];rfl
  go_enter Tryz.func131,Tryz.ntmps131
  go_wp2_with fail
  go_ret;exact⟨by rw[c.out];rfl,bel⟩
 have f:Hid (b=(if (m.k == 1)=true then (m.t == 0) && (m.l == 0) else if (m.k == 2)=true then decide (0<=m.t) && decide (m.t<s.n) && (m.l == 0) else if (m.k == 3)=true then (m.t == 0) && decide (0<=m.l) && decide (m.l<s.ls.length) else false)):=by show _=_;rw[C.out,decide_eq_true F,decide_eq_true M];rfl
 clear C
 rcases Bool.eq_false_or_eq_true (m.k == 1)with A | A
 .rcases Bool.eq_false_or_eq_true (m.t == 0)with o | o
  .rcases Bool.eq_false_or_eq_true (m.l == 0)with g | g
   .skip
    have c:Hid (b=true):=by show _=_;rw[f.out,if_pos A,o,g];rfl
    go_enter Tryz.func131,Tryz.ntmps131
    go_wp2_with fail
    go_ret;exact⟨by rw[c.out];rfl,bel⟩
   skip
   have c:Hid (b=false):=by show _=_;rw[f.out,if_pos A,o,g];rfl
   go_enter Tryz.func131,Tryz.ntmps131
   go_wp2_with fail
   go_ret;exact⟨by rw[c.out];rfl,bel⟩
  skip
  have c:Hid (b=false):=by show _=_;rw[f.out,if_pos A,o];rfl
  go_enter Tryz.func131,Tryz.ntmps131
  go_wp2_with fail
  go_ret;exact⟨by rw[c.out];rfl,bel⟩
 have I:¬ (m.k == 1)=true:=by rw[A];decide
 have q:=Hd I;clear I
 rcases Bool.eq_false_or_eq_true (m.k == 2)with o | o
 .by_cases r:0<=m.t
  .by_cases u:m.t<s.n
   .rcases Bool.eq_false_or_eq_true (m.l == 0)with g | g
    .skip
     have c:Hid (b=true):=by show _=_;rw[f.out,if_neg q.out,if_pos o,decide_eq_true r,decide_eq_true u,g];rfl
     go_enter Tryz.func131,Tryz.ntmps131
     go_wp2_with fail
     go_ret;exact⟨by rw[c.out];rfl,bel⟩
    skip
    have c:Hid (b=false):=by show _=_;rw[f.out,if_neg q.out,if_pos o,decide_eq_true r,decide_eq_true u,g];rfl
    go_enter Tryz.func131,Tryz.ntmps131
    go_wp2_with fail
    go_ret;exact⟨by rw[c.out];rfl,bel⟩
   skip
   have c:Hid (b=false):=by show _=_;rw[f.out,if_neg q.out,if_pos o,decide_eq_true r,decide_eq_false u];rfl
   go_enter Tryz.func131,Tryz.ntmps131
   go_wp2_with fail
   go_ret;exact⟨by rw[c.out];rfl,bel⟩
  skip
  have c:Hid (b=false):=by show _=_;rw[f.out,if_neg q.out,if_pos o,decide_eq_false r];rfl
  go_enter Tryz.func131,Tryz.ntmps131
  go_wp2_with fail
  go_ret;exact⟨by rw[c.out];rfl,bel⟩
 have J:¬ (m.k == 2)=true:=by rw[o];decide
 have v:=Hd J;clear J
 rcases Bool.eq_false_or_eq_true (m.k == 3)with g | g
 .rcases Bool.eq_false_or_eq_true (m.t == 0)with B | B
  .by_cases r:0<=m.l
   .by_cases u:m.l<s.ls.length
    .skip
     have c:Hid (b=true):=by show _=_;rw[f.out,if_neg q.out,if_neg v.out,if_pos g,B,decide_eq_true r,decide_eq_true u];rfl
     go_enter Tryz.func131,Tryz.ntmps131
     go_wp2_with fail
     go_ret;exact⟨by rw[c.out];rfl,bel⟩
    skip
    have c:Hid (b=false):=by show _=_;rw[f.out,if_neg q.out,if_neg v.out,if_pos g,B,decide_eq_true r,decide_eq_false u];rfl
    go_enter Tryz.func131,Tryz.ntmps131
    go_wp2_with fail
    go_ret;exact⟨by rw[c.out];rfl,bel⟩
   skip
   have c:Hid (b=false):=by show _=_;rw[f.out,if_neg q.out,if_neg v.out,if_pos g,B,decide_eq_false r];rfl
   go_enter Tryz.func131,Tryz.ntmps131
   go_wp2_with fail
   go_ret;exact⟨by rw[c.out];rfl,bel⟩
  skip
  have c:Hid (b=false):=by show _=_;rw[f.out,if_neg q.out,if_neg v.out,if_pos g,B];rfl
  go_enter Tryz.func131,Tryz.ntmps131
  go_wp2_with fail
  go_ret;exact⟨by rw[c.out];rfl,bel⟩
 have N:¬ (m.k == 3)=true:=by rw[g];decide
 have c:Hid (b=false):=by show _=_;rw[f.out,if_neg q.out,if_neg v.out,if_neg N]
 go_enter Tryz.func131,Tryz.ntmps131
 go_wp2_with fail
 go_ret;exact⟨by rw[c.out];rfl,bel⟩
end
section
open Go.Shelf
noncomputable def mutE (s:Sy) (m:Mu):Int:=@ite _ (qah s) (Classical.propDecidable _) (@ite _ (qbq s m) (Classical.propDecidable _) 0 1) 8
noncomputable def mutR (s:Sy) (m:Mu):Sy:=if mutE s m=0 then qde s m else ⟨0,[],[]⟩
theorem qr0 {s:Sy} {m:Mu} (h:¬ qah s):mutE s m=8:=if_neg h
theorem mutE_no {s:Sy} {m:Mu} (h:qah s) (c:¬ qbq s m):mutE s m=1:=(if_pos h).trans (if_neg c)
theorem mutE_ok {s:Sy} {m:Mu} (h:qah s) (c:qbq s m):mutE s m=0:=(if_pos h).trans (if_pos c)
def qfr (s:Sy) (m:Mu) (w:World) (e:Ending) (w':World):Prop:=∃cs,e = .returned (.tuple #[.agg cs.toArray,.int .i64 (mutE s m)])/\RSy (λ_=>True) w' (mutR s m) cs/\Ext w w'
theorem qfr.zero {s:Sy} {m:Mu} {w c:World} {er:Int} (h:mutE s m=er) (f:er≠0) (g:Ext w c):qfr s m w (.returned (.tuple #[.agg #[.int .i64 0,.slice none 0 0,.slice none 0 0],.int .i64 er])) c:=by
 have hr:mutR s m=⟨0,[],[]⟩:=if_neg (by rw[h];exact f);refine⟨[.int .i64 0,.slice none 0 0,.slice none 0 0],by rw[h],?_,g⟩;rw[hr];exact⟨by unfold I64;exact⟨by decide,by decide⟩,_,_,rfl,⟨none,0,rfl,Nat.le_refl _,by decide,.inl rfl⟩,⟨none,0,rfl,Nat.le_refl _,by decide,.inl rfl⟩⟩
theorem qfr.yes {s:Sy} {m:Mu} {w c:World} {cs:List Value} (h:mutE s m=0) (hs:RSy (λ_=>True) c (qde s m) cs) (f:Ext w c):qfr s m w (.returned (.tuple #[.agg cs.toArray,.int .i64 0])) c :=
 ⟨cs,by rw[h],by rw[mutR,if_pos h];exact hs,f⟩
theorem rMutate_c (S:Nat->Prop) (s:Sy) (m:Mu) (cs cm:List Value) (w:World) (hx:RSy S w s cs) (af:RMu S w m cm) :
  Calls Tryz.prog 68 #[.agg cs.toArray,.agg cm.toArray] w (qfr s m w):=by
 have N:=λW (hW:Ext w W)=>qit S s cs W (RSy.good.bel hx hW)
 have r:=λW (hW:Ext w W)=>qvj S s m cs cm W (RSy.good.bel hx hW) (RMu.good.bel af hW)
 have O:=λE hm W (hW:Ext w W)=>qvo (λq=>q<w.heap.size) s E m hm cs cm W (RSy.good.bel (RSy.good.mono hx λb hb _=>hb) hW) (RMu.good.bel af hW)
 obtain⟨jn,vl,ve,rfl,am,al⟩:=id hx;obtain⟨Al,cl,rfl,_,_⟩:=am.val;obtain⟨Ae,ce,rfl,_,_⟩:=al.val;obtain⟨jk,je,jt,jl,rfl⟩:=af;clear hx am al;obtain⟨X,M⟩:=nm (((w.alloc (.cells #[.int .i64 s.n,.slice Al s.ls.length cl,.slice Ae s.es.length ce] 25)).alloc (.cells #[.int .i64 m.k,.int .i64 m.e,.int .i64 m.t,.int .i64 m.l] 94)).alloc (.cells #[.int .i64 0,.slice none 0 0,.slice none 0 0] 25));have ai:Ext w X:=by rw[<- M];exact(((Ext.refl w).alloc _).alloc _).alloc _
 have V:X.heap.size=w.heap.size+3:=by rw[<- M];simp
 have o:qaf X w.heap.size 25 [.int .i64 s.n,.slice Al s.ls.length cl,.slice Ae s.es.length ce]:=by
  rw[<- M];exact((qaf.new w _ _).ext ((Ext.refl _).alloc _)).ext ((Ext.refl _).alloc _)
 have c:qaf X (w.heap.size+1) 94 [.int .i64 m.k,.int .i64 m.e,.int .i64 m.t,.int .i64 m.l]:=by rw[<- M];exact qg3 ..
 have f:qaf X (w.heap.size+1+1) 25 [.int .i64 0,.slice none 0 0,.slice none 0 0]:=by rw[<- M];exact qgy ..
 have T:=Hd M;have F:=Hd o;have G:=Hd c;have v:=Hd f;have L:=Hd ai;clear M o c f ai
 by_cases E:qah s
 case neg =>
  rw[qe0 E]at N;have HP:=Hd (λw' (hX:Ext w w')=>qfr.zero (qr0 (m:=m) E) (by decide) hX);have D:=N X L.out;clear r O N E
  go_enter Tryz.func68,Tryz.ntmps68
  go_upto_region 1 with (fail)
  rw[T.out];obtain⟨B1,y⟩:=nm (w.heap.size+1);rw[y]at G v;obtain⟨g,A⟩:=nm (B1+1);rw[y,A];rw[A]at v;have HN:Hid (B1=w.heap.size+1/\g=w.heap.size+2/\X.heap.size=w.heap.size+3):=⟨by omega,by omega,V⟩
  clear T y A V;obtain⟨a0,a1,a2,az⟩:=c3 F.out
  go_wp2_with fail
  refine D.mono ?_;rintro e w1 ⟨rfl,J⟩;have HXw1:Hid (Ext w w1):=L.out.trans' J;have o:=F.out.ext J;have c:=G.out.ext J;have f:=v.out.ext J;have u:=Hd f;clear a0 a1 a2 az;obtain⟨a0,a1,a2,az⟩:=c3 o;have m0:=c.cell 0 _;have m1:=c.cell 1 _;have m2:=c.cell 2 _;have m3:=c.cell 3 _;have mz:=c.lt;obtain⟨r0,r1,r2,rz⟩:=c3 f;have f0:=f.frozen 0;have f1:=f.frozen 1;have f2:=f.frozen 2;clear o c f;clear J D L F G v
  go_wp2_with fail
  have C:=((u.out.set 0 (.int .i64 0)).set 1 (.slice none 0 0)).set 2 (.slice none 0 0)
  have I:Bt (λq=>q=g) w1 (((w1.setCell ⟨g,0,none⟩ (.int .i64 0)).setCell ⟨g,1,none⟩ (.slice none 0 0)).setCell ⟨g,2,none⟩ (.slice none 0 0)) :=
   Bt.set (Z:=λq=>q=g) (p:=⟨g,2,none⟩) (Bt.set (Z:=λq=>q=g) (p:=⟨g,1,none⟩) (Bt.set (Z:=λq=>q=g) (p:=⟨g,0,none⟩) (Bt.refl _ _) (.inr rfl) _) (.inr rfl) _) (.inr rfl) _
  refine bodyPost_ret (qg8 rfl _ _ g _ _ _ (.int .i64 8) rfl rfl (C.cell 0 _) (C.cell 1 _) (C.cell 2 _)) rfl (HP.out _ (Bt.new HXw1.out I λq _ h=>by have:=HN.out;omega))
 rw[qhg E]at N;have D:=N X L.out
 by_cases hm:qbq s m
 case neg =>
  have aa:chgB s m=false:=Bool.eq_false_iff.2 λh=>hm ((qmh s m).1 h)
  rw[aa]at r;have HP:=Hd (λw' (hX:Ext w w')=>qfr.zero (mutE_no E hm) (by decide) hX);have Y:=Hd r;clear r O N E aa hm
  go_enter Tryz.func68,Tryz.ntmps68
  go_upto_region 1 with (fail)
  rw[T.out];obtain⟨B1,y⟩:=nm (w.heap.size+1);rw[y]at G v;obtain⟨g,A⟩:=nm (B1+1);rw[y,A];rw[A]at v;have HN:Hid (B1=w.heap.size+1/\g=w.heap.size+2/\X.heap.size=w.heap.size+3):=⟨by omega,by omega,V⟩
  clear T y A V;obtain⟨a0,a1,a2,az⟩:=c3 F.out
  go_wp2_with fail
  refine D.mono ?_;rintro e w1 ⟨rfl,J⟩;have HXw1:Hid (Ext w w1):=L.out.trans' J;have o:=F.out.ext J;have c:=G.out.ext J;have f:=v.out.ext J;have u:=Hd f;clear a0 a1 a2 az;obtain⟨a0,a1,a2,az⟩:=c3 o;have m0:=c.cell 0 _;have m1:=c.cell 1 _;have m2:=c.cell 2 _;have m3:=c.cell 3 _;have mz:=c.lt;obtain⟨r0,r1,r2,rz⟩:=c3 f;have f0:=f.frozen 0;have f1:=f.frozen 1;have f2:=f.frozen 2;clear o c f;have r:=Y.out w1 HXw1.out;clear J D L F G v Y
  go_wp2_with fail
  refine r.mono ?_;rintro e w2 ⟨rfl,h2⟩;have HXw2:Hid (Ext w w2):=HXw1.out.trans' h2;clear r0 r1 r2 rz f0 f1 f2;have f:=u.out.ext h2;have u:=Hd f;obtain⟨r0,r1,r2,rz⟩:=c3 f;have f0:=f.frozen 0;have f1:=f.frozen 1;have f2:=f.frozen 2;clear f r h2
  go_wp2_with fail
  have C:=((u.out.set 0 (.int .i64 0)).set 1 (.slice none 0 0)).set 2 (.slice none 0 0)
  have I:Bt (λq=>q=g) w2 (((w2.setCell ⟨g,0,none⟩ (.int .i64 0)).setCell ⟨g,1,none⟩ (.slice none 0 0)).setCell ⟨g,2,none⟩ (.slice none 0 0)) :=
   Bt.set (Z:=λq=>q=g) (p:=⟨g,2,none⟩) (Bt.set (Z:=λq=>q=g) (p:=⟨g,1,none⟩) (Bt.set (Z:=λq=>q=g) (p:=⟨g,0,none⟩) (Bt.refl _ _) (.inr rfl) _) (.inr rfl) _) (.inr rfl) _
  refine bodyPost_ret (qg8 rfl _ _ g _ _ _ (.int .i64 1) rfl rfl (C.cell 0 _) (C.cell 1 _) (C.cell 2 _)) rfl (HP.out _ (Bt.new HXw2.out I λq _ h=>by have:=HN.out;omega))
 have aa:chgB s m=true:=(qmh s m).2 hm;rw[aa]at r;have HE:=Hd (mutE_ok E hm);have Y:=Hd r;have ah:=Hd (O E hm);obtain⟨z,hz⟩:=nm (qde s m);have HZ:=Hd hz;clear r O N E aa hm hz
 go_enter Tryz.func68,Tryz.ntmps68
 go_upto_region 1 with (fail)
 rw[T.out];obtain⟨B1,y⟩:=nm (w.heap.size+1);rw[y]at G v;obtain⟨g,A⟩:=nm (B1+1);rw[y,A];rw[A]at v;have HN:Hid (B1=w.heap.size+1/\g=w.heap.size+2/\X.heap.size=w.heap.size+3):=⟨by omega,by omega,V⟩
 clear T y A V;obtain⟨a0,a1,a2,az⟩:=c3 F.out
 go_wp2_with fail
 refine D.mono ?_;rintro e w1 ⟨rfl,J⟩;have HXw1:Hid (Ext w w1):=L.out.trans' J;have o:=F.out.ext J;have c:=G.out.ext J;have f:=v.out.ext J;have u:=Hd f;clear a0 a1 a2 az;obtain⟨a0,a1,a2,az⟩:=c3 o;have m0:=c.cell 0 _;have m1:=c.cell 1 _;have m2:=c.cell 2 _;have m3:=c.cell 3 _;have mz:=c.lt;obtain⟨r0,r1,r2,rz⟩:=c3 f;have f0:=f.frozen 0;have f1:=f.frozen 1;have f2:=f.frozen 2;clear o c f;have ac:=Hd (F.out.ext J);have ad:=Hd (G.out.ext J);have r:=Y.out w1 HXw1.out;clear J D L F G v Y
 go_wp2_with fail
 refine r.mono ?_;rintro e w2 ⟨rfl,h2⟩;have HXw2:Hid (Ext w w2):=HXw1.out.trans' h2;clear r0 r1 r2 rz f0 f1 f2 a0 a1 a2 az m0 m1 m2 m3 mz;have o:=ac.out.ext h2;have c:=ad.out.ext h2;have ae:=Hd (u.out.ext h2);obtain⟨a0,a1,a2,az⟩:=c3 o;have m0:=c.cell 0 _;have m1:=c.cell 1 _;have m2:=c.cell 2 _;have m3:=c.cell 3 _;have mz:=c.lt;have O:=ah.out w2 HXw2.out;clear o c r h2 ah HXw1 ac ad u
 go_wp2_with fail
 refine O.mono ?_;rintro e w5 ⟨ar,rfl,ab,ag⟩;rw[HZ.out]at ab;obtain⟨j5,v1,v2,rfl,aj,ak⟩:=id ab;obtain⟨A5,c5,rfl,_,_⟩:=aj.val;obtain⟨A6,c6,rfl,_,_⟩:=ak.val;have U:=ae.out.ext ag;clear a0 a1 a2 az m0 m1 m2 m3 mz;obtain⟨r0,r1,r2,rz⟩:=c3 U;have f0:=U.frozen 0;have f1:=U.frozen 1;have f2:=U.frozen 2;have an:=Hd U;have ao:=Hd ab;have ap:=Hd (HXw2.out.trans' ag);clear O ab ag aj ak U;have aq:Hid (g<w2.heap.size):=ae.out.lt
 go_wp2_with fail
 have C:=((an.out.set 0 (.int .i64 z.n)).set 1 (.slice A5 z.ls.length c5)).set 2 (.slice A6 z.es.length c6)
 have I:Bt (λq=>q=g) w5 (((w5.setCell ⟨g,0,none⟩ (.int .i64 z.n)).setCell ⟨g,1,none⟩ (.slice A5 z.ls.length c5)).setCell ⟨g,2,none⟩ (.slice A6 z.es.length c6)) :=
  Bt.set (Z:=λq=>q=g) (p:=⟨g,2,none⟩) (Bt.set (Z:=λq=>q=g) (p:=⟨g,1,none⟩) (Bt.set (Z:=λq=>q=g) (p:=⟨g,0,none⟩) (Bt.refl _ _) (.inr rfl) _) (.inr rfl) _) (.inr rfl) _
 refine bodyPost_ret (qg8 rfl _ _ g _ _ _ (.int .i64 0) rfl rfl (C.cell 0 _) (C.cell 1 _) (C.cell 2 _)) rfl (qfr.yes (cs:=[.int .i64 z.n,.slice A5 z.ls.length c5,.slice A6 z.es.length c6]) HE.out ?_ (Bt.new ap.out I λq _ h=>by have:=HN.out;omega));rw[HZ.out];refine RSy.good.mono (RSy.good.move ao.out (I.kp λq _ h h'=>?_)) λb _ h=>trivial
 have:=HN.out;have h0:g<w2.heap.size:=aq.out
 rcases h with⟨h,_⟩ | h <;> omega
end
section
open Go.Shelf
def qxi (s:Sy) (m:Mu) (w:World) (e:Ending) (w':World):Prop:=∃cs,e = .returned (.tuple #[.agg cs.toArray,.int .i64 0])/\RSy (λb=>w.heap.size<=b) w' (qde s m) cs/\Ext w w'
theorem Mutate_c (S:Nat->Prop) (s:Sy) (ad:qah s) (ao:qfk s) (am:s.ls.length<=16) (m:Mu) (hm:qbq s m) (cs cm:List Value) (w:World) (hx:RSy S w s cs) (ac:RMu S w m cm) :
  Calls Tryz.prog 61 #[.agg cs.toArray,.agg cm.toArray] w (qxi s m w):=by
 have D:=λW (hW:Ext w W)=>qhj S s cs W (RSy.good.bel hx hW) ad
 have f:=λW (hW:Ext w W)=>qr4 S s ad ao am m hm cs cm W (RSy.good.bel hx hW) (RMu.good.bel ac hW)
 obtain⟨jn,vl,ve,rfl,ai,ah⟩:=id hx;obtain⟨Al,cl,rfl,_,_⟩:=ai.val;obtain⟨Ae,ce,rfl,_,_⟩:=ah.val;obtain⟨jk,je,jt,jl,rfl⟩:=ac;obtain⟨z,hz⟩:=nm (qde s m);have HZ:=Hd hz;have O:=Hd f;clear hx ai ah hz f;obtain⟨C,o⟩:=nm (((w.alloc (.cells #[.int .i64 s.n,.slice Al s.ls.length cl,.slice Ae s.es.length ce] 25)).alloc (.cells #[.int .i64 m.k,.int .i64 m.e,.int .i64 m.t,.int .i64 m.l] 94)).alloc (.cells #[.int .i64 0,.slice none 0 0,.slice none 0 0] 25));have aa:Ext w C:=by rw[<- o];exact(((Ext.refl w).alloc _).alloc _).alloc _
 have ae:C.heap.size=w.heap.size+3:=by rw[<- o];simp
 have v:qaf C w.heap.size 25 [.int .i64 s.n,.slice Al s.ls.length cl,.slice Ae s.es.length ce]:=by
  rw[<- o];exact((qaf.new w _ _).ext ((Ext.refl _).alloc _)).ext ((Ext.refl _).alloc _)
 have c:qaf C (w.heap.size+1) 94 [.int .i64 m.k,.int .i64 m.e,.int .i64 m.t,.int .i64 m.l]:=by rw[<- o];exact qg3 ..
 have ab:qaf C (w.heap.size+1+1) 25 [.int .i64 0,.slice none 0 0,.slice none 0 0]:=by rw[<- o];exact qgy ..
 have U:=Hd o;have M:=Hd v;have N:=Hd c;have F:=Hd ab;have V:=Hd aa;clear o v c ab aa
 go_enter Tryz.func61,Tryz.ntmps61
 go_upto_region 1 with (fail)
 rw[U.out];obtain⟨B1,G⟩:=nm (w.heap.size+1);rw[G]at N F;obtain⟨u,I⟩:=nm (B1+1);rw[G,I];rw[I]at F;have HN:Hid (B1=w.heap.size+1/\u=w.heap.size+2/\C.heap.size=w.heap.size+3):=⟨by omega,by omega,ae⟩
 obtain⟨a0,a1,a2,az⟩:=c3 M.out;clear U G I ae
 go_wp2_with fail
 refine(D _ V.out).mono ?_;rintro e w1 ⟨g,rfl,Y,hg,hS⟩;have X:=Hd (V.out.trans' Y);have v:=M.out.ext Y;have c:=N.out.ext Y;have A:=Hd (F.out.ext Y);clear a0 a1 a2 az Y hS D hg;obtain⟨a0,a1,a2,az⟩:=c3 v;have m0:=c.cell 0 _;have m1:=c.cell 1 _;have m2:=c.cell 2 _;have m3:=c.cell 3 _;have mz:=c.lt;have f:=O.out _ X.out;clear v c
 go_wp2_with fail
 refine f.mono ?_;rintro e w5 ⟨ap,rfl,y,L⟩;rw[HZ.out]at y;obtain⟨j5,v1,v2,rfl,af,ag⟩:=id y;obtain⟨A5,c5,rfl,_,_⟩:=af.val;obtain⟨A6,c6,rfl,_,_⟩:=ag.val;have r:=A.out.ext L;obtain⟨r0,r1,r2,rz⟩:=c3 r;have f0:=r.frozen 0;have f1:=r.frozen 1;have f2:=r.frozen 2;have aj:=Hd r;have ak:=Hd y;have al:=Hd (X.out.trans' L)
 have T:Hid (w.heap.size+3<=w1.heap.size):=by
  have:=HN.out;have h2:=(A.out).lt;show _<=_;omega
 clear f y L af ag r a0 a1 a2 az m0 m1 m2 m3 mz
 go_wp2_with fail
 have an:=((aj.out.set 0 (.int .i64 z.n)).set 1 (.slice A5 z.ls.length c5)).set 2 (.slice A6 z.es.length c6)
 have E:Bt (λq=>q=u) w5 (((w5.setCell ⟨u,0,none⟩ (.int .i64 z.n)).setCell ⟨u,1,none⟩ (.slice A5 z.ls.length c5)).setCell ⟨u,2,none⟩ (.slice A6 z.es.length c6)) :=
  Bt.set (Z:=λq=>q=u) (p:=⟨u,2,none⟩) (Bt.set (Z:=λq=>q=u) (p:=⟨u,1,none⟩) (Bt.set (Z:=λq=>q=u) (p:=⟨u,0,none⟩) (Bt.refl _ _) (.inr rfl) _) (.inr rfl) _) (.inr rfl) _
 have J:=an.ext ((Ext.refl _).alloc (.cells #[.int .i64 z.n,.slice A5 z.ls.length c5,.slice A6 z.es.length c6] 25));refine bodyPost_ret (qg8 rfl _ _ u _ _ _ (.int .i64 0) rfl rfl (J.cell 0 _) (J.cell 1 _) (J.cell 2 _)) rfl ⟨[.int .i64 z.n,.slice A5 z.ls.length c5,.slice A6 z.es.length c6],rfl,?_,(Bt.new al.out E λq _ h=>by have:=HN.out;omega).alloc _⟩;rw[HZ.out];refine RSy.good.mono (RSy.good.bel (RSy.good.move ak.out (E.kp λq _ h h'=>by have:=HN.out;have:=T.out;omega)) ((Ext.refl _).alloc _)) λb _ h=>?_
 have:=T.out;omega
end
section
open Go.Shelf
theorem sMutate_c (S:Nat->Prop) (s:Sy) (ah:qfk s) (ag:s.ls.length<=16) (m:Mu) (cs cm:List Value) (w:World) (hx:RSy S w s cs) (aa:RMu S w m cm) :
  Calls Tryz.prog 61 #[.agg cs.toArray,.agg cm.toArray] w (qfr s m w):=by
 by_cases o:qah s/\qbq s m
 .refine (Mutate_c S s o.1 ah ag m o.2 cs cm w hx aa).mono ?_;rintro e w' ⟨ai,rfl,J,h2⟩;exact qfr.yes (mutE_ok o.1 o.2) (RSy.good.mono J λ_ _ _=>trivial) h2
 have X:=λ(hn:¬ qah s) W (hW:Ext w W)=>qij S s cs W (RSy.good.bel hx hW) hn
 have N:=λ(hn:qah s) W (hW:Ext w W)=>qhj S s cs W (RSy.good.bel hx hW) hn
 have Y:=λu hm W (hW:Ext w W)=>qt8 S s u m hm cs cm W (RSy.good.bel hx hW) (RMu.good.bel aa hW)
 obtain⟨jn,vl,ve,rfl,af,ae⟩:=id hx;obtain⟨Al,cl,rfl,_,_⟩:=af.val;obtain⟨Ae,ce,rfl,_,_⟩:=ae.val;obtain⟨jk,je,jt,jl,rfl⟩:=aa;clear hx af ae;obtain⟨L,E⟩:=nm (((w.alloc (.cells #[.int .i64 s.n,.slice Al s.ls.length cl,.slice Ae s.es.length ce] 25)).alloc (.cells #[.int .i64 m.k,.int .i64 m.e,.int .i64 m.t,.int .i64 m.l] 94)).alloc (.cells #[.int .i64 0,.slice none 0 0,.slice none 0 0] 25));have ac:Ext w L:=by rw[<- E];exact(((Ext.refl w).alloc _).alloc _).alloc _
 have U:L.heap.size=w.heap.size+3:=by rw[<- E];simp
 have z:qaf L w.heap.size 25 [.int .i64 s.n,.slice Al s.ls.length cl,.slice Ae s.es.length ce]:=by
  rw[<- E];exact((qaf.new w _ _).ext ((Ext.refl _).alloc _)).ext ((Ext.refl _).alloc _)
 have f:qaf L (w.heap.size+1) 94 [.int .i64 m.k,.int .i64 m.e,.int .i64 m.t,.int .i64 m.l]:=by rw[<- E];exact qg3 ..
 have c:qaf L (w.heap.size+1+1) 25 [.int .i64 0,.slice none 0 0,.slice none 0 0]:=by rw[<- E];exact qgy ..
 have T:=Hd E;have F:=Hd z;have G:=Hd f;have v:=Hd c;have I:=Hd ac;clear E z f c ac
 by_cases u:qah s
 case neg =>
  have HP:=Hd (λw' (hX:Ext w w')=>qfr.zero (qr0 (m:=m) u) (by decide) hX);have A:=X u L I.out;clear Y X N u o
  go_enter Tryz.func61,Tryz.ntmps61
  go_upto_region 1 with (fail)
  rw[T.out];obtain⟨B1,C⟩:=nm (w.heap.size+1);rw[C]at G v;obtain⟨r,D⟩:=nm (B1+1);rw[C,D];rw[D]at v;have HN:Hid (B1=w.heap.size+1/\r=w.heap.size+2/\L.heap.size=w.heap.size+3):=⟨by omega,by omega,U⟩
  clear T C D U;obtain⟨a0,a1,a2,az⟩:=c3 F.out
  go_wp2_with fail
  refine A.mono ?_;rintro e w1 ⟨rfl,J⟩;have HXw1:Hid (Ext w w1):=I.out.trans' J;have z:=F.out.ext J;have f:=G.out.ext J;have c:=v.out.ext J;have y:=Hd c;clear a0 a1 a2 az;obtain⟨a0,a1,a2,az⟩:=c3 z;have m0:=f.cell 0 _;have m1:=f.cell 1 _;have m2:=f.cell 2 _;have m3:=f.cell 3 _;have mz:=f.lt;obtain⟨r0,r1,r2,rz⟩:=c3 c;have f0:=c.frozen 0;have f1:=c.frozen 1;have f2:=c.frozen 2;clear z f c;clear J A I F G v
  go_wp2_with fail
  have M:=((y.out.set 0 (.int .i64 0)).set 1 (.slice none 0 0)).set 2 (.slice none 0 0)
  have O:Bt (λq=>q=r) w1 (((w1.setCell ⟨r,0,none⟩ (.int .i64 0)).setCell ⟨r,1,none⟩ (.slice none 0 0)).setCell ⟨r,2,none⟩ (.slice none 0 0)) :=
   Bt.set (Z:=λq=>q=r) (p:=⟨r,2,none⟩) (Bt.set (Z:=λq=>q=r) (p:=⟨r,1,none⟩) (Bt.set (Z:=λq=>q=r) (p:=⟨r,0,none⟩) (Bt.refl _ _) (.inr rfl) _) (.inr rfl) _) (.inr rfl) _
  refine bodyPost_ret (qg8 rfl _ _ r _ _ _ (.int .i64 8) rfl rfl (M.cell 0 _) (M.cell 1 _) (M.cell 2 _)) rfl (HP.out _ (Bt.new HXw1.out O λq _ h=>by have:=HN.out;omega))
 have hm:¬ qbq s m:=λh=>o ⟨u,h⟩
 have A:=N u L I.out;have HP:=Hd (λw' (hX:Ext w w')=>qfr.zero (mutE_no u hm) (by decide) hX);have ab:=Hd (Y u hm);clear Y X N u hm o
 go_enter Tryz.func61,Tryz.ntmps61
 go_upto_region 1 with (fail)
 rw[T.out];obtain⟨B1,C⟩:=nm (w.heap.size+1);rw[C]at G v;obtain⟨r,D⟩:=nm (B1+1);rw[C,D];rw[D]at v;have HN:Hid (B1=w.heap.size+1/\r=w.heap.size+2/\L.heap.size=w.heap.size+3):=⟨by omega,by omega,U⟩
 clear T C D U;obtain⟨a0,a1,a2,az⟩:=c3 F.out
 go_wp2_with fail
 refine A.mono ?_;rintro e w1 ⟨g,rfl,J,hg,hS⟩;clear hg hS;have HXw1:Hid (Ext w w1):=I.out.trans' J;have z:=F.out.ext J;have f:=G.out.ext J;have c:=v.out.ext J;have y:=Hd c;clear a0 a1 a2 az;obtain⟨a0,a1,a2,az⟩:=c3 z;have m0:=f.cell 0 _;have m1:=f.cell 1 _;have m2:=f.cell 2 _;have m3:=f.cell 3 _;have mz:=f.lt;obtain⟨r0,r1,r2,rz⟩:=c3 c;have f0:=c.frozen 0;have f1:=c.frozen 1;have f2:=c.frozen 2;clear z f c;have ad:=ab.out w1 HXw1.out;clear J A I F G v ab
 go_wp2_with fail
 refine ad.mono ?_;rintro e w2 ⟨rfl,h2⟩;have HXw2:Hid (Ext w w2):=HXw1.out.trans' h2;clear r0 r1 r2 rz f0 f1 f2;have c:=y.out.ext h2;have y:=Hd c;obtain⟨r0,r1,r2,rz⟩:=c3 c;have f0:=c.frozen 0;have f1:=c.frozen 1;have f2:=c.frozen 2;clear c ad h2
 go_wp2_with fail
 have M:=((y.out.set 0 (.int .i64 0)).set 1 (.slice none 0 0)).set 2 (.slice none 0 0)
 have O:Bt (λq=>q=r) w2 (((w2.setCell ⟨r,0,none⟩ (.int .i64 0)).setCell ⟨r,1,none⟩ (.slice none 0 0)).setCell ⟨r,2,none⟩ (.slice none 0 0)) :=
  Bt.set (Z:=λq=>q=r) (p:=⟨r,2,none⟩) (Bt.set (Z:=λq=>q=r) (p:=⟨r,1,none⟩) (Bt.set (Z:=λq=>q=r) (p:=⟨r,0,none⟩) (Bt.refl _ _) (.inr rfl) _) (.inr rfl) _) (.inr rfl) _
 have V:=M.ext ((Ext.refl _).alloc (.cells #[.int .i64 0,.slice none 0 0,.slice none 0 0] 25));refine bodyPost_ret (qg8 rfl _ _ r _ _ _ (.int .i64 1) rfl rfl (V.cell 0 _) (V.cell 1 _) (V.cell 2 _)) rfl (HP.out _ ((Bt.new HXw2.out O λq _ h=>by have:=HN.out;omega).alloc _))
end
section
open Go.Shelf
def qgk (s:Sy) (ts:List Te) (m:Mu):Bool:=decide (0<=qbd (qbz (qde s m)) ts)
def ScoreGood (s:Sy) (ts:List Te) (ms:List Mu) (w:World) (e:Ending) (w':World):Prop:=∃A c,e = .returned (.tuple #[.slice A ms.length c,.int .i64 0])/\qab qac 1 4 w.heap.size (λ_=>False) w' (ms.map (qgk s ts)) (.slice A ms.length c)/\Ext w w'
open Classical in
noncomputable def qgr (s:Sy) (ts:List Te) (ms:List Mu):Int:=if qal s ts=0 then (if ∀m∈ms,qbq s m then 0 else 1) else qal s ts
structure qfh (s:Sy) (ts:List Te) (ms:List Mu) (w:World) (e:Ending) (w':World):Prop where
 good:qal s ts=0->(∀m∈ms,qbq s m)->ScoreGood s ts ms w e w'
 bad:¬ (qal s ts=0/\∀m∈ms,qbq s m)->∃er,er≠0/\e = .returned (.tuple #[.slice none 0 0,.int .i64 er])/\Ext w w'
 ext:Ext w w'
 err:¬ (qal s ts=0/\∀m∈ms,qbq s m)->e = .returned (.tuple #[.slice none 0 0,.int .i64 (qgr s ts ms)])
theorem qfh.no {s:Sy} {ts:List Te} {ms:List Mu} {w f:World} {er:Int} (h:¬ (qal s ts=0/\∀m∈ms,qbq s m)) (g:er≠0) (r:qgr s ts ms=er) (c:Ext w f):qfh s ts ms w (.returned (.tuple #[.slice none 0 0,.int .i64 er])) f :=
 ⟨λo q=>absurd ⟨o,q⟩ h,λ_=>⟨er,g,rfl,c⟩,c,λ_=>by rw[r]⟩
theorem qfh.yes {s:Sy} {ts:List Te} {ms:List Mu} {w g:World} {A:Option Addr} {c:Nat} (h:qal s ts=0/\∀m∈ms,qbq s m) (q:qab qac 1 4 w.heap.size (λ_=>False) g (ms.map (qgk s ts)) (.slice A ms.length c)) (o:Ext w g):qfh s ts ms w (.returned (.tuple #[.slice A ms.length c,.int .i64 0])) g :=
 ⟨λ_ _=>⟨A,c,rfl,q,o⟩,λf=>absurd h f,o,λf=>absurd h f⟩
theorem Score_c (s:Sy) (aM:qfk s) (aI:s.ls.length<=16) (cs:List Value) (ts:List Te) (v:Value) (ms:List Mu) (u:Value) (w:World) (G:RSy (λ_=>True) w s cs) (ht:RSl RTe 2 (λ_=>True) w ts [v]) (J:RSl RMu 4 (λ_=>True) w ms [u]) (a4:ms.length<=4000) :
  Calls Tryz.prog 69 #[.agg cs.toArray,v,u] w (qfh s ts ms w):=by
 have F:=λW (X:Ext w W)=>qlx (λ_=>True) s cs ts v W (RSy.good.bel G X) ((RSl.good RTe.good).bel ht X)
 have ac:=λ(B:qah s) m (E:qbq s m) cm W (X:Ext w W) (hr:RMu (λ_=>True) W m cm)=>qr4 (λ_=>True) s B aM aI m E cs cm W (RSy.good.bel G X) hr
 have ad:=λ(B:qah s) m (E:¬ qbq s m) cm W (X:Ext w W) (hr:RMu (λ_=>True) W m cm)=>qt8 (λ_=>True) s B m E cs cm W (RSy.good.bel G X) hr
 have y:=λz (J:qah z) (hn:∀t∈ts,NTe t) g W (hg:qaz (λ_=>True) W g z) (X:Ext w W)=>qoj (λ_=>True) z J g ts v W hg ((RSl.good RTe.good).bel ht X) hn
 obtain⟨_,vl,ve,rfl,aq,ap⟩:=id G;obtain⟨Al,cl,rfl,_,_⟩:=aq.val;obtain⟨Ae,ce,rfl,_,_⟩:=ap.val;obtain⟨A,c,rfl,hc,aZ⟩:=ht.val;obtain⟨Am,cm,rfl,a3,aP⟩:=J.val;have HZ:=Hd J;clear G ht aq ap J
 by_cases L:qal s ts=0
 case neg =>
  obtain⟨er,O⟩:=nm (qal s ts);rw[O]at F;have M:er≠0:=by rw[<- O];exact L
  have HP:=Hd (λw' (N:Ext w w')=>qfh.no (s:=s) (ts:=ts) (ms:=ms) (er:=er) (λh=>L h.1) M (by rw[qgr,if_neg L,O]) N);have aW:(er == 0)=false:=beq_eq_false_iff_ne.2 M;clear y O ac ad L
  go_enter Tryz.func69,Tryz.ntmps69
  go_wp2_with fail
  refine(F _ bel).mono ?_;rintro e I ⟨_,h1⟩;obtain⟨rfl,h1⟩:=h1 M;clear M
  go_wp2_with fail
  go_ret2;exact HP.out _ bel
 have B:=(qdh L).1;have HN:=Hd λt h=>NTe.of_test ((qdh L).2.2 t h)
 rw[L]at F;have HE:=Hd L;have aB:=Hd B;have ay:=Hd (ac B);have az:=Hd (ad B);have aw:=Hd y;clear y ac ad L;have h4:¬ 4000<ms.length:=by omega
 go_enter Tryz.func69,Tryz.ntmps69
 go_wp2_with fail
 refine(F _ bel).mono ?_;rintro e I ⟨h1,_⟩;obtain⟨_,rfl,D,_,_⟩:=h1 rfl;have aK:=D.cells;have a0:I.cell? ⟨w.heap.size,0,none⟩=some (.int .i64 s.n):=Ext.keep D (by go_simp);have a1:I.cell? ⟨w.heap.size,1,none⟩=some (.slice Al s.ls.length cl):=Ext.keep D (by go_simp);have a2:I.cell? ⟨w.heap.size,2,none⟩=some (.slice Ae s.es.length ce):=Ext.keep D (by go_simp);have aE:Hid (Ext w I):=(show Ext w I from bel)
 have a5:w.heap.size<I.heap.size:=by have:=D.size;simp at this;omega
 clear h1 D aK F
 go_wp2_with fail
 go_loopw [10,31] (λaN aO wr=>∃(k:Nat) (Ao:Option Addr) (co:Nat),k<=ms.length/\aO = .int .i64 k/\aN = .slice Ao k co/\Ext I wr/\Hid (qab qac 1 4 I.heap.size (λ_=>False) wr ((ms.take k).map (qgk s ts)) (.slice Ao k co))/\Hid (∀m∈ms.take k,qbq s m)) (λ_ v _=>ms.length-(intOf v).toNat)
 case atStart=>exact⟨0,none,0,Nat.zero_le _,rfl,rfl,Ext.refl _,qab.nil ..,by show ∀_,_;simp⟩
 obtain⟨k,Ao,co,hk,rfl,rfl,r,hO,hM⟩:=hrel;have av:=Hd r;have aR:=Ext.keep r a0;have aS:=Ext.keep r a1;have aT:=Ext.keep r a2;have a6:=r.size;have N:=aE.out.trans' r;have aY:w.heap.size<wr.heap.size:=by omega
 by_cases T:k<ms.length
 .obtain ⟨b,a7,aU,rfl,hb,aJ,hl,hr,o⟩:=((RSl.good RMu.good).bel HZ.out N).get k T;obtain⟨m,ab⟩:=nm (ms[k]);rw[ab]at hr;obtain⟨jk,je,jt,jl,rfl⟩:=id hr;have d0:=o.get 0 _;have d1:=o.get 1 _;have d2:=o.get 2 _;have d3:=o.get 3 _;simp only[Nat.add_zero]at d0;have Y:=Hd ab;have HX:=Hd N;have aQ:=Hd hr;clear o hl aJ hr ab r a0 a1 a2 N
  by_cases E:qbq s m
  case neg =>
   have f:=az.out m E;have HP:=Hd (λw' (N:Ext w w')=>qfh.no (s:=s) (ts:=ts) (ms:=ms) (er:=1) (λh=>E (by rw[<- Y.out];exact h.2 _ (List.getElem_mem T))) (by decide) (by rw[qgr,if_pos HE.out,if_neg (λh=>E (by rw[<- Y.out];exact h _ (List.getElem_mem T)))]) N);clear E
   go_wp2_with fail
   refine(f _ _ bel ⟨jk,je,jt,jl,rfl⟩).mono ?_;rintro e w5 ⟨rfl,V⟩;have aX:=HX.out.trans' (((Ext.refl wr).alloc (.cells #[.int .i64 m.k,.int .i64 m.e,.int .i64 m.t,.int .i64 m.l] 94)).trans' V);clear f
   go_wp2_with fail
   go_ret2;exact HP.out _ bel
  have f:=ay.out m E;have ax:=Hd E;have C:=qn5 aB.out E;obtain⟨z,J⟩:=nm (qde s m);rw[J]at C;have aH:=Hd J;have al:=λcs W (hr:RSy (λ_=>True) W z cs)=>qhj (λ_=>True) z cs W hr C
  have y:=aw.out z C HN.out;obtain⟨i,hi⟩:=nm (qbd (qbz z) ts);rw[hi]at y;have HI:Hid (qgk s ts m=decide (0<=i)):=by show _=_;rw[qgk,J,hi]
  clear E J C hi
  go_wp2_with fail
  refine(f _ _ bel ⟨jk,je,jt,jl,rfl⟩).mono ?_;rintro e w5 ⟨aV,rfl,U,V⟩;rw[aH.out]at U;obtain⟨j5,v1,v2,rfl,an,ao⟩:=id U;obtain⟨A5,c5,rfl,_,_⟩:=an.val;obtain⟨A6,c6,rfl,_,_⟩:=ao.val;have aG:=Hd (((Ext.refl wr).alloc (.cells #[.int .i64 m.k,.int .i64 m.e,.int .i64 m.t,.int .i64 m.l] 94)).trans' V);have aD:=Hd (RSy.good.mono U λ_ _ _=>trivial:RSy (λ_=>True) w5 z _);clear f U an ao V
  go_wp2_with fail
  refine(al _ _ (RSy.good.bel aD.out bel)).mono ?_;rintro e w6 ⟨g,rfl,ar,aL,ai⟩;have aC:=Hd (ai.mono (S':=λ_=>True) λ_ _ _=>trivial);have ag:=Hd (aG.out.trans' (((Ext.refl w5).alloc (.cells #[.int .i64 z.n,.slice A5 z.ls.length c5,.slice A6 z.es.length c6] 25)).trans' ar));clear al ar aL ai
  go_wp2_with fail
  refine(y _ _ aC.out (HX.out.trans' ag.out)).mono ?_;rintro e w7 ⟨rfl,au⟩;have aa:=Hd (ag.out.trans' au);have ah:=hO.out.ext qac.good aa.out;have am:=λq hq=>hO.out.own_lt (b:=q) hq
  obtain⟨g2,c2,w2,af,ae,aj,_,_⟩:=qcw qac.good (by decide) I.heap.size 4 73 (.bool false) 1 Tryz.underlying73 info4 rfl (by decide) (λ_=>False) w7 _ (.slice Ao k co) (decide (0<=i)) _ ah rfl (by have:=aa.out.size;omega) (by rw[List.length_map,List.length_take];omega);have ak:((ms.take k).map (qgk s ts)).length=k:=by rw[List.length_map,List.length_take];omega
  rw[ak]at af ae;have aA:=Hd ae;have aF:Hid (Ext I w2):=Bt.new (av.out.trans' aa.out) aj λq _ h=>(am q h).1
  clear y au ah am ae aj ak
  go_wp2_with (at_builtin;refine wpList_append_run rfl _ _ _ rfl _ _ _ rfl rfl af ?_;clear af)
  go_roundw
  case rel =>
   have e:ms.take (k+1)=ms.take k++[m]:=by rw[List.take_succ_eq_append_getElem T,Y.out]
   refine⟨k+1,some ⟨g2,0,none⟩,c2,by omega,by go_num,rfl,aF.out,?_,?_⟩
   .show qab _ _ _ _ _ _ _ _;rw[e,List.map_append,List.map_cons,List.map_nil,HI.out];exact aA.out
   show ∀_,_;rw[e];intro x G
   rcases List.mem_append.1 G with G | G
   .exact hM.out x G
   rw[List.mem_singleton.1 G];exact ax.out
  simp[intOf];omega
 obtain rfl:k=ms.length:=by omega
 have hO:=hO.out;have hM:=hM.out;rw[List.take_length]at hO hM;have HP:=Hd (qfh.yes (s:=s) (ts:=ts) (ms:=ms) ⟨HE.out,hM⟩ (qab.base hO (by omega)) N);clear hO hM N
 go_wp2_with fail
 go_ret2;exact HP.out
end
section
open Go.Shelf
end
section
open Go.Shelf
theorem rScore_c (s:Sy) (cs:List Value) (ts:List Te) (v:Value) (ms:List Mu) (u:Value) (w:World) (hx:RSy (λ_=>True) w s cs) (ht:RSl RTe 2 (λ_=>True) w ts [v]) (hz:RSl RMu 4 (λ_=>True) w ms [u]) (bu:ms.length<=4000) :
  Calls Tryz.prog 70 #[.agg cs.toArray,v,u] w (qfh s ts ms w):=by
 have ab:=λW (T:Ext w W)=>qit (λ_=>True) s cs W (RSy.good.bel hx T)
 have ac:=λW (T:Ext w W)=>qnc (λ_=>True) ts v W ((RSl.good RTe.good).bel ht T)
 have av:=λm cm W (T:Ext w W) (hr:RMu (λ_=>True) W m cm)=>qvj (λ_=>True) s m cs cm W (RSy.good.bel hx T) hr
 have ax:=λ(r:qah s) m (hm:qbq s m) cm W (T:Ext w W) (hr:RMu (λ_=>True) W m cm)=>qvo (λq=>q<w.heap.size) s r m hm cs cm W (RSy.good.bel (RSy.good.mono hx λb hb _=>hb) T) hr
 have o:=λz (hz:qah z) (hn:∀t∈ts,qbj t=true) c W (T:Ext w W) (hr:RSy (λ_=>True) W z c)=>qvl (λ_=>True) z hz c z.n.toNat (by have:=hz.1;omega) ts v W hr ((RSl.good RTe.good).bel ht T) (λt h=>by
  have:=hn t h;simp[qbj,qbk]at this
  omega)
 obtain⟨_,vl,ve,rfl,a2,a1⟩:=id hx;obtain⟨Al,cl,rfl,_,_⟩:=a2.val;obtain⟨Ae,ce,rfl,_,_⟩:=a1.val;obtain⟨A,c,rfl,hc,br⟩:=ht.val;obtain⟨Am,cm,rfl,bt,bo⟩:=hz.val;have HZ:=Hd hz;clear hx ht a2 a1 hz
 by_cases r:qah s
 case neg =>
  rw[qe0 r]at ab;have X:qal s ts=8:=by rw[qal,if_neg r]
  have HP:=Hd (λw' (J:Ext w w')=>qfh.no (s:=s) (ts:=ts) (ms:=ms) (er:=8) (λh=>by rw[X]at h;exact absurd h.1 (by decide)) (by decide) (by rw[qgr,if_neg (by rw[X];decide),X]) J);clear X r ac av ax o
  go_enter Tryz.func70,Tryz.ntmps70
  go_wp2_with fail
  refine(ab _ bel).mono ?_;rintro e w1 ⟨rfl,ad⟩;have M:Ext w w1:=bel;clear ad
  go_wp2_with fail
  go_ret2;exact HP.out _ M
 rw[qhg r]at ab
 by_cases X:qal s ts=0
 case neg =>
  have hT:qal s ts=qd3 ts:=by rw[qal,if_pos r]
  obtain⟨er,aw⟩:=nm (qal s ts);rw[<- hT,aw]at ac;have aF:er≠0:=by rw[<- aw];exact X
  have HP:=Hd (λw' (J:Ext w w')=>qfh.no (s:=s) (ts:=ts) (ms:=ms) (er:=er) (λh=>X h.1) aF (by rw[qgr,if_neg X,aw]) J);have bq:(er == 0)=false:=beq_eq_false_iff_ne.2 aF;clear aw X hT r av ax o aF
  go_enter Tryz.func70,Tryz.ntmps70
  go_wp2_with fail
  refine(ab _ bel).mono ?_;rintro e w1 ⟨rfl,ad⟩;have M:Ext w w1:=bel;clear ad
  go_wp2_with fail
  refine(ac _ M).mono ?_;rintro e w2 ⟨rfl,ae⟩;have aa:Ext w w2:=M.trans' ae;clear ae
  go_wp2_with fail
  go_ret2;exact HP.out _ aa
 have hT:qd3 ts=0:=by rw[qal,if_pos r]at X;exact X
 rw[hT]at ac;have HE:=Hd X;have bd:=Hd r;have bb:=Hd (ax r);have aO:=Hd (qdh X).2.2;have a9:=Hd o;have a7:=Hd av;clear o ax av X hT r;have h4:¬ 4000<ms.length:=by omega
 go_enter Tryz.func70,Tryz.ntmps70
 go_wp2_with fail
 refine(ab _ bel).mono ?_;rintro e w1 ⟨rfl,ad⟩;have aV:=qaf.ext (qaf.new w 25 [.int .i64 s.n,.slice Al s.ls.length cl,.slice Ae s.es.length ce]) ad;have M:Ext w w1:=bel;clear ad
 go_wp2_with fail
 refine(ac _ M).mono ?_;rintro e w2 ⟨rfl,ae⟩;have be:Hid (Ext w w2):=M.trans' ae;have aA:=Hd (aV.ext ae);obtain⟨B0,aD⟩:=nm (w.heap.size);rw[aD]at aA;have a4:=Hd aD;clear M ae aV ab ac aD
 go_wp2_with fail
 rw[a4.out]
 go_loopw [9] (λvi wr=>∃k:Nat,k<=ms.length/\vi = .int .i64 k/\Ext w2 wr/\Hid (∀m∈ms.take k,qbq s m)) (λvi _=>ms.length-(intOf vi).toNat)
 case atStart=>exact⟨0,Nat.zero_le _,rfl,Ext.refl _,by show ∀_,_;simp⟩
 obtain⟨k,hk,rfl,C,hM⟩:=hrel;have D:=aA.out.ext C;have x0:=D.cell 0 _;have x1:=D.cell 1 _;have x2:=D.cell 2 _;have xz:=D.lt;have J:=be.out.trans' C;clear D
 by_cases E:k<ms.length
 .obtain ⟨b,ar,bg,rfl,hb,aG,hl,hr,f⟩:=((RSl.good RMu.good).bel HZ.out J).get k E;have g:=List.getElem_mem E;have U:=List.take_succ_eq_append_getElem E;obtain⟨m,an⟩:=nm (ms[k]);rw[an]at hr g U;obtain⟨jk,je,jt,jl,rfl⟩:=id hr;have F:=λW (T:Ext wr W)=>a7.out m _ W (J.trans' T) (RMu.good.bel hr T)
  have d0:=f.get 0 _;have d1:=f.get 1 _;have d2:=f.get 2 _;have d3:=f.get 3 _;simp only[Nat.add_zero]at d0;have aI:k+1<=ms.length:=E;have aa:∀(y:World),Ext wr (qam wr y):=λy=>qa7 _ y
  have aN:=Hd g;have aB:=Hd U;clear f hl aG hr an g U
  by_cases hm:qbq s m
  case neg =>
   have am:chgB s m=false:=Bool.eq_false_iff.2 λh=>hm ((qmh s m).1 h)
   rw[am]at F;have HP:=Hd (λw' (J:Ext w w')=>qfh.no (s:=s) (ts:=ts) (ms:=ms) (er:=1) (λh=>hm (h.2 _ aN.out)) (by decide) (by rw[qgr,if_pos HE.out,if_neg (λh=>hm (h _ aN.out))]) J);clear hm am
   go_wp2_with fail
   (refine qap ?_;(repeat (first | go_big_quiet_step ((go_at_call 131;exact qbh (F _ (aa _)))) | quiet_step ((go_at_call 131;exact qbh (F _ (aa _))))));refine wpQuiet_nil ?_)
   intro w4 aL
   go_wp2_with fail
   go_ret2;exact HP.out _ (J.trans' aL)
  have am:chgB s m=true:=(qmh s m).2 hm;rw[am]at F;have ba:=Hd hm;clear hm am
  go_wp2_with fail
  (refine qap ?_;(repeat (first | go_big_quiet_step ((go_at_call 131;exact qbh (F _ (aa _)))) | quiet_step ((go_at_call 131;exact qbh (F _ (aa _))))));refine wpQuiet_nil ?_)
  intro w4 aL
  go_wp2_with fail
  go_roundw
  case rel =>
   refine⟨k+1,aI,by go_num,C.trans' aL,?_⟩;show ∀_,_;rw[aB.out];intro y hy
   rcases List.mem_append.1 hy with hy | hy
   .exact hM.out y hy
   rw[List.mem_singleton.1 hy];exact ba.out
  simp[intOf];omega
 obtain rfl:k=ms.length:=by omega
 have hM:=hM.out;rw[List.take_length]at hM;have ay:=Hd hM;obtain⟨w7,rfl⟩:∃w7,w7=wr:=⟨_,rfl⟩
 have aR:=Hd J;have a5:=Hd (aA.out.ext C);clear hM E J C x0 x1 x2 xz hk
 go_wp2_with fail
 go_loopw [11,12] (λbi bk wr=>∃(k:Nat) (Ao:Option Addr) (co:Nat),k<=ms.length/\bk = .int .i64 k/\bi = .slice Ao k co/\Ext w7 wr/\Hid (qab qac 1 4 w7.heap.size (λ_=>False) wr ((ms.take k).map (qgk s ts)) (.slice Ao k co))) (λ_ v _=>ms.length-(intOf v).toNat)
 case atStart=>exact⟨0,none,0,Nat.zero_le _,rfl,rfl,Ext.refl _,qab.nil ..⟩
 obtain⟨k,Ao,co,hk,rfl,rfl,C,hO⟩:=hrel;have a8:=Hd C;have D:=a5.out.ext C;have x0:=D.cell 0 _;have x1:=D.cell 1 _;have x2:=D.cell 2 _;have xz:=D.lt;have J:=aR.out.trans' C;have bv:=C.size;clear D
 by_cases E:k<ms.length
 .obtain ⟨b,ar,bg,rfl,hb,aG,hl,hr,f⟩:=((RSl.good RMu.good).bel HZ.out J).get k E;have g:=ay.out _ (List.getElem_mem E);have U:=List.take_succ_eq_append_getElem E;obtain⟨m,an⟩:=nm (ms[k]);rw[an]at hr g U;obtain⟨jk,je,jt,jl,rfl⟩:=id hr;have d0:=f.get 0 _;have d1:=f.get 1 _;have d2:=f.get 2 _;have d3:=f.get 3 _;simp only[Nat.add_zero]at d0;have aI:k+1<=ms.length:=E;have aB:=Hd U;have HX:=Hd J;have bp:=Hd hr;have al:=λW (T:Ext wr W)=>bb.out m g _ W (J.trans' T) (RMu.good.bel hr T)
  have O:=qn5 bd.out g;obtain⟨z,hz⟩:=nm (qde s m);rw[hz]at O;have aS:=Hd hz;have aX:qbd (qgu z z.n.toNat) ts=qbd (qbz z) ts:=qq8 λt h=>qs7 O (by have:=O.1;omega) (aO.out t h)
  have o:=a9.out z O aO.out;rw[aX]at o;obtain⟨i,hi⟩:=nm (qbd (qbz z) ts);rw[hi]at o;have HI:Hid (qgk s ts m=decide (0<=i)):=by show _=_;rw[qgk,hz,hi]
  have af:=Hd al;have aM:=Hd o;clear f hl aG hr an g U hz O hi aX o al J C
  go_upto_region 18 with (fail)
  go_cut [13] (λbj wx=>∃(B6:Nat) (A5:Option Addr) (c5:Nat) (A6:Option Addr) (c6:Nat),bj = .pointer (some ⟨B6,0,none⟩)/\Hid (Ext wr wx/\qaf wx B6 25 [.int .i64 z.n,.slice A5 z.ls.length c5,.slice A6 z.es.length c6]/\RSy (λ_=>True) wx z [.int .i64 z.n,.slice A5 z.ls.length c5,.slice A6 z.es.length c6]))
  case first =>
   refine qek (λW=>W.cell? ⟨B0,0,none⟩=some (.int .i64 s.n)/\W.cell? ⟨B0,1,none⟩=some (.slice Al s.ls.length cl)/\W.cell? ⟨B0,2,none⟩=some (.slice Ae s.es.length ce)/\W.cell? ⟨b,ar+k*4,none⟩=some (.int .i64 m.k)/\W.cell? ⟨b,ar+k*4+1,none⟩=some (.int .i64 m.e)/\W.cell? ⟨b,ar+k*4+2,none⟩=some (.int .i64 m.t)/\W.cell? ⟨b,ar+k*4+3,none⟩=some (.int .i64 m.l)) (by kernel_rfl) (by rfl) (by kernel_rfl) ⟨x0,x1,x2,d0,d1,d2,d3⟩ (λhHeld=>?_);dsimp only[List.dropLast,List.getLastD,List.getLast?,List.getLast];obtain⟨Wd,aH⟩:=nm (wr.drew);have ai:Ext wr Wd:=aH ▸ Below.drew (Ext.refl _);rw[aH]at hHeld ⊢;clear aH x0 x1 x2 d0 d1 d2 d3
   (refine tk 0 ?_;try simp only[qae])
   (refine tk 1 ?_;try simp only[qae])
   (refine tk 2 ?_;try simp only[qae])
   (refine tk 3 ?_;try simp only[qae])
   (refine tk 4 ?_;try simp only[qae])
   refine wpAnyH_ready (rs:=[5,6]) (by kernel_rfl) (by simp) ?_;refine AllReadyH.cons rfl (λK hK=>?_) (AllReadyH.cons rfl (λK hK=>?_) AllReadyH.nil)
   .go_simp;refine(af.out Wd ai).mono ?_;rintro e w5 ⟨bh,rfl,I,N⟩;refine hK.out _ _ (Ext.k7 N hHeld) (λG=>?_);clear hK K
    try simp only[qae]
    rw[aS.out]at I;obtain⟨j5,v1,v2,rfl,ao,ap⟩:=id I;obtain⟨A5,c5,rfl,_,_⟩:=ao.val;obtain⟨A6,c6,rfl,_,_⟩:=ap.val;have ag:=Hd (RSy.good.mono I λ_ _ _=>trivial:RSy (λ_=>True) w5 z _);have aC:Hid (Ext wr w5):=ai.trans' N;clear I ao ap N hHeld;refine wpAnyH_ready (rs:=[6]) (by kernel_rfl) (by simp) ?_;refine AllReadyH.cons rfl (λK hK=>?_) AllReadyH.nil;go_simp;refine hK.out _ _ (Ext.k7 ((Ext.refl w5).alloc _) G) (λ_=>?_);clear hK K
    try simp only[qae]
    refine wpAnyH_done (by kernel_rfl) ?_ _;show Oper.wp _ _ _ _ _ _;go_simp
    go_wp2_with fail
    go_meet
    exact⟨_,A5,c5,A6,c6,rfl,aC.out.alloc _,qaf.new w5 25 _,RSy.good.bel ag.out ((Ext.refl _).alloc _)⟩
   go_simp;have aq:Ext Wd (Wd.alloc (.cells #[.int .i64 0,.slice none 0 0,.slice none 0 0] 25)):=(Ext.refl Wd).alloc _;have ak:qaf (Wd.alloc (.cells #[.int .i64 0,.slice none 0 0,.slice none 0 0] 25)) Wd.heap.size 25 [.int .i64 0,.slice none 0 0,.slice none 0 0]:=qaf.new Wd 25 _;obtain⟨Wa,aU⟩:=nm (Wd.alloc (.cells #[.int .i64 0,.slice none 0 0,.slice none 0 0] 25));rw[aU]at aq ak ⊢;obtain⟨V,aE⟩:=nm (Wd.heap.size);have bn:wr.heap.size<=V:=by rw[<- aE];exact ai.size
   rw[aE]at ak ⊢;refine hK.out _ _ (Ext.k7 aq hHeld) (λY=>?_);clear hK K aU aE
   try simp only[qae]
   refine wpAnyH_ready (rs:=[5]) (by kernel_rfl) (by simp) ?_;refine AllReadyH.cons rfl (λK hK=>?_) AllReadyH.nil;go_simp;refine(af.out Wa (ai.trans' aq)).mono ?_;rintro e w5 ⟨bh,rfl,I,N⟩;refine hK.out _ _ (Ext.k7 N Y) (λG=>?_);clear hK K
   try simp only[qae]
   rw[aS.out]at I;obtain⟨j5,v1,v2,rfl,ao,ap⟩:=id I;obtain⟨A5,c5,rfl,_,_⟩:=ao.val;obtain⟨A6,c6,rfl,_,_⟩:=ap.val;have ag:=Hd I;have aC:Hid (Ext Wa w5):=N;have L:=Hd (ak.ext N);have r0:=L.out.cell 0 _;have r1:=L.out.cell 1 _;have r2:=L.out.cell 2 _;have rz:=L.out.lt;have f0:=L.out.frozen 0;have f1:=L.out.frozen 1;have f2:=L.out.frozen 2;have a6:Hid (V<Wa.heap.size):=ak.lt;have bf:Hid (Ext wr Wa):=ai.trans' aq;clear I ao ap N hHeld Y ak aq;refine wpAnyH_done (by kernel_rfl) ?_ _;show Oper.wp _ _ _ _ _ _;go_simp;clear G
   go_wp2_with fail
   go_meet
   have az:Bt (λq=>q=V) w5 (((w5.setCell ⟨V,0,none⟩ (.int .i64 z.n)).setCell ⟨V,1,none⟩ (.slice A5 z.ls.length c5)).setCell ⟨V,2,none⟩ (.slice A6 z.es.length c6)) :=
    Bt.set (Z:=λq=>q=V) (p:=⟨V,2,none⟩) (Bt.set (Z:=λq=>q=V) (p:=⟨V,1,none⟩) (Bt.set (Z:=λq=>q=V) (p:=⟨V,0,none⟩) (Bt.refl _ _) (.inr rfl) _) (.inr rfl) _) (.inr rfl) _
   refine⟨V,A5,c5,A6,c6,rfl,Bt.new (bf.out.trans' aC.out) az λq _ h=>by omega,((L.out.set 0 _).set 1 _).set 2 _,RSy.good.mono (RSy.good.move ag.out (az.kp λq _ h h'=>?_)) λ_ _ _=>trivial⟩;have h0:=HX.out.size;have h1:V<Wa.heap.size:=a6.out
   rcases h with⟨h,_⟩ | h <;> omega
  rename World=>W6
  obtain⟨B6,A5,c5,A6,c6,rfl,au⟩:=hcut;have aj:=au.out.2.1;have ag:=Hd au.out.2.2;have aQ:=Hd au.out.1;clear au x0 x1 x2 d0 d1 d2 d3;have y0:=aj.cell 0 _;have y1:=aj.cell 1 _;have y2:=aj.cell 2 _;have yz:=aj.lt;have o:=aM.out _ W6 (HX.out.trans' aQ.out) ag.out;clear aj
  go_wp2_with fail
  refine o.mono ?_;rintro e bm ⟨rfl,a3⟩;have ah:=Hd (aQ.out.trans' a3);have aT:=hO.out.ext qac.good ah.out;have aZ:=λq hq=>hO.out.own_lt (b:=q) hq
  obtain⟨g2,c2,bl,aK,aJ,aW,_,_⟩:=qcw qac.good (by decide) w7.heap.size 4 73 (.bool false) 1 Tryz.underlying73 info4 rfl (by decide) (λ_=>False) bm _ (.slice Ao k co) (decide (0<=i)) _ aT rfl (by have:=ah.out.size;omega) (by rw[List.length_map,List.length_take];omega);have aY:((ms.take k).map (qgk s ts)).length=k:=by rw[List.length_map,List.length_take];omega
  rw[aY]at aK aJ;have bc:=Hd aJ;have aP:Hid (Ext w7 bl):=Bt.new (a8.out.trans' ah.out) aW λq _ h=>(aZ q h).1
  clear o a3 aT aZ aJ aW aY y0 y1 y2 yz
  go_wp2_with (at_builtin;refine wpList_append_run rfl _ _ _ rfl _ _ _ rfl rfl aK ?_;clear aK)
  go_roundw
  case rel =>
   refine⟨k+1,some ⟨g2,0,none⟩,c2,aI,by go_num,rfl,aP.out,?_⟩;show qab _ _ _ _ _ _ _ _;rw[aB.out,List.map_append,List.map_cons,List.map_nil,HI.out];exact bc.out
  simp[intOf];omega
 obtain rfl:k=ms.length:=by omega
 have hO:=hO.out;rw[List.take_length]at hO;have HP:=Hd (qfh.yes (s:=s) (ts:=ts) (ms:=ms) ⟨HE.out,ay.out⟩ (qab.base hO (aR.out.size)) J);clear hO J
 go_wp2_with fail
 go_ret2;exact HP.out
end
end Go.Proofs.YtegenalcheooeaaGreat
