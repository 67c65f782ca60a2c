/- Of the proof of a law of the suites: Covers, CoversE. -/
import Derived.Test.YtegenalcheooeaaGreatB10
set_option linter.unusedSectionVars false
set_option linter.unusedSimpArgs false
set_option linter.unusedVariables false
namespace Go.Proofs.YtegenalcheooeaaGreat
open Go.RowKit
attribute [local go_sem] cell?_exto
set_option maxHeartbeats 16000000
set_option maxRecDepth 100000
section
open Go.Shelf
attribute [local go_sem] Oper.semAt_some
theorem qtg (S:Nat->Prop) (s:Sy) (bD:qah s) (g:Nat) (t:Te) (A:Cv) (base:Nat) (v1 v2 v u:Value) (w:World) (hS:qaz S w g s) (hr:RCv base w A v1 v2) (dr:∀q,S q->q<base) (ht:qaa S w t.tr [v]) (hm:qaa S w t.mu [u])
  (du:A.l.length=s.ls.length) (c5:A.e.length=s.es.length) (d8:t.tr.length<=4611686018427387903) (en:t.mu.length<=4611686018427387903) :
  Calls Tryz.prog 113 #[.pointer (some ⟨g,0,none⟩),.agg #[v1,v2],.agg #[v,u]] w λe w'=>e = .returned (.tuple #[])/\RCv base w' (qa9 s t A) v1 v2/\Bt (ZCv v1 v2) w w':=by
 have HS:=Hd hS;have HT:=Hd ht;have HM:=Hd hm;have HR:=Hd hr;have HL:=Hd (And.intro du c5);obtain⟨At,ct,rfl,em,eg⟩:=ht.val;obtain⟨Am,cm,rfl,_,_⟩:=hm.val;obtain⟨A1,k1,rfl,_,_⟩:=(hr.l.sl qac.good (by decide)).val;obtain⟨A2,k2,rfl,_,_⟩:=(hr.e.sl qac.good (by decide)).val;have dZ:=λbs (h:bs=A.l.length)=>h
 clear hS ht hm hr du c5 dZ;refine(callsIn_wide (n:=5)).1 ?_;refine callsIn_of_wp_marks Tryz.func113 rfl trivial ?_ rfl;simp only[Tryz.ntmps113,List.size_toArray,List.length_cons,List.length_nil,Nat.reduceAdd,Nat.reduceSub,Array.replicate_succ,Array.replicate_zero,List.push_toArray,List.append_toArray,List.nil_append,List.cons_append]
 gi_wp2_with fail
 refine⟨trivial,?_⟩
 gi_at_call 150
 refine(qom 4 (some ⟨g,0,none⟩) At t.tr.length ct _).mono ?_;rintro e w1 ⟨rfl,rfl⟩
 gi_wp2_with fail
 obtain⟨W0,aI⟩:=nm (((((w.alloc (.cells #[.pointer (some ⟨g,0,none⟩)] 111)).alloc (.cells #[.slice A1 A.l.length k1,.slice A2 A.e.length k2] 145)).alloc (.cells #[.slice At t.tr.length ct,.slice Am t.mu.length cm] 40)).alloc (.cells #[.pointer (some ⟨g,0,none⟩)] 111)).alloc (.cells #[.slice At t.tr.length ct] 22));have ei:W0.heap.size=w.heap.size+5:=by rw[<- aI];simp
 have bI:Ext w W0:=by rw[<- aI];exact(((((Ext.refl w).alloc _).alloc _).alloc _).alloc _).alloc _
 have b0:W0.cell? ⟨w.heap.size,0,none⟩=some (.pointer (some ⟨g,0,none⟩)):=by
  subst aI;go_simp
 have dh:W0.cell? ⟨w.heap.size+1,0,none⟩=some (.slice A1 A.l.length k1):=by
  subst aI;go_simp
 have di:W0.cell? ⟨w.heap.size+1,1,none⟩=some (.slice A2 A.e.length k2):=by
  subst aI;go_simp
 have dj:W0.cell? ⟨w.heap.size+2,0,none⟩=some (.slice At t.tr.length ct):=by
  subst aI;go_simp
 have dk:W0.cell? ⟨w.heap.size+2,1,none⟩=some (.slice Am t.mu.length cm):=by
  subst aI;go_simp
 have b3:W0.cell? ⟨w.heap.size+3,0,none⟩=some (.pointer (some ⟨g,0,none⟩)):=by
  subst aI;go_simp
 have b4:W0.cell? ⟨w.heap.size+4,0,none⟩=some (.slice At t.tr.length ct):=by
  subst aI;go_simp
 rw[aI];clear aI;obtain⟨Zc,aw⟩:∃Zc:Nat->Prop,Zc=ZCv (.slice A1 A.l.length k1) (.slice A2 A.e.length k2):=⟨_,rfl⟩
 have bX:∀q,Zc q->base<=q/\q<w.heap.size:=λq hq=>by
  rw[aw]at hq
  rcases hq with h | h
  .exact qg1 HR.out.l h
  exact qg1 HR.out.e h
 obtain⟨Z,hZ⟩:∃Z:Nat->Prop,Z=λq=>(S q/\q<w.heap.size)\/(w.heap.size<=q/\q<w.heap.size+5):=⟨_,rfl⟩
 have dq:∀q,Z q->q<W0.heap.size/\¬ Zc q:=λq hq=>by
  rw[hZ]at hq;refine⟨?_,λhz=>?_⟩
  .rcases hq with⟨_,h⟩ | ⟨_,h⟩ <;> omega
  have O:=bX q hz
  rcases hq with⟨h,_⟩ | ⟨h,_⟩
  .have:=dr q h;omega
  omega
 have dn:qaz Z W0 g s:=(HS.out.mono (S':=Z) λq O L=>by rw[hZ];exact .inl ⟨L,O⟩).bel bI;have dp:qaa Z W0 t.tr [.slice At t.tr.length ct]:=qaa.good.bel (qaa.good.mono HT.out (S':=Z) λq O L=>by rw[hZ];exact .inl ⟨L,O⟩) bI;have dl:qaa Z W0 t.mu [.slice Am t.mu.length cm]:=qaa.good.bel (qaa.good.mono HM.out (S':=Z) λq O L=>by rw[hZ];exact .inl ⟨L,O⟩) bI;have dm:RCv base W0 A (.slice A1 A.l.length k1) (.slice A2 A.e.length k2):=HR.out.ext bI;have de:=Hd dn;have df:=Hd dp;have dM:=Hd dl;have br:=Hd dm;have G:=Hd dq;have HB:=Hd (And.intro b0 (And.intro dh (And.intro di (And.intro dj dk))));have dJ:=Hd b3;have dK:=Hd b4;have bh:Z w.heap.size:=by rw[hZ];exact .inr ⟨by omega,by omega⟩
 have aT:Z (w.heap.size+1):=by rw[hZ];exact .inr ⟨by omega,by omega⟩
 have a6:Z (w.heap.size+2):=by rw[hZ];exact .inr ⟨by omega,by omega⟩
 have eb:Z (w.heap.size+3):=by rw[hZ];exact .inr ⟨by omega,by omega⟩
 have ec:Z (w.heap.size+4):=by rw[hZ];exact .inr ⟨by omega,by omega⟩
 have J:=Hd bX;clear b0 dh di dj dk b3 b4 dn dp dl dm dq dr hZ bX
 refine qq0 (by omega) (gf:=220) (lb:=#[.pointer (some ⟨w.heap.size+3,0,none⟩),.pointer (some ⟨w.heap.size+4,0,none⟩)]) rfl (enters_of Tryz.func220 (by kernel_rfl) rfl)
  (qov (5-1) (by omega) Zc Z s bD g t.tr _ (w.heap.size+3) (w.heap.size+4) W0 G.out (λk hk=>by have:=J.out k hk;omega) de.out df.out eb ec dJ.out dK.out d8)
  (λ_=>rfl) kc_t (λW l o o' O L h3=>kc_b W l o o' O L h3)
  (λpre W=>pre.length<=t.tr.length+1/\Bt Zc W0 W/\RCv base W (qaw s t A pre.length) (.slice A1 A.l.length k1) (.slice A2 A.e.length k2)/\Hid (qfj s t (t.tr.length+1-pre.length) pre.length (qaw s t A pre.length)=qa9 s t A))
  (λc _ W=>c = .ret/\Bt Zc W0 W/\RCv base W (qa9 s t A) (.slice A1 A.l.length k1) (.slice A2 A.e.length k2)) ?own ?ownx
  ⟨Nat.zero_le _,Bt.refl _ _,br.out,rfl⟩
  (λpre x a' W=>walkG s t.tr W0.heap.size pre x W/\∃bi,W0.heap.size<=bi/\Boxed W bi 3 (.int .i64 (x.1:Int))/\a'={ tmps:=#[.pointer (some ⟨g,0,none⟩),.agg #[.slice A1 A.l.length k1,.slice A2 A.e.length k2],.agg #[.slice At t.tr.length ct,.slice Am t.mu.length cm],.pointer (some ⟨w.heap.size,0,none⟩),.pointer (some ⟨w.heap.size+1,0,none⟩),.pointer (some ⟨w.heap.size+2,0,none⟩),.pointer (some ⟨bi,0,none⟩),x.2,undef,undef,undef,undef,undef,undef,undef,.pointer (some ⟨g,0,none⟩),.pointer (some ⟨w.heap.size+2,0,none⟩),.slice At t.tr.length ct,.func (.func 220) #[] #[.pointer (some ⟨w.heap.size+3,0,none⟩),.pointer (some ⟨w.heap.size+4,0,none⟩)],.int .i64 (x.1:Int),x.2,undef,undef,undef,undef,undef,undef,undef,undef,undef,undef,undef,undef,undef,undef,undef,undef,undef,undef,undef,undef,undef,undef,undef,undef,undef,undef,undef,undef,undef,undef,undef,undef,undef,undef,undef,undef,undef,undef,undef,undef,undef,undef,undef,undef,undef,undef,undef,undef,undef,undef,undef,undef,undef,undef,undef,undef,undef,undef,undef,undef,undef,undef,undef,undef,undef,undef,undef,undef,undef,undef,undef,undef,undef,undef,undef,undef,undef,undef,undef,undef],defers:=[] })
  ?ownA
  ?assign ?body ?done ?stop
 case own =>
  rintro pre X Y r ⟨h0,O,L,h3⟩ hg hr;exact⟨h0,qi5 _ _ () X Y r O hg hr,br.out.own (Nat.le_refl _) L hg λq e=>(hr q e).1,h3⟩
 case ownx =>
  rintro c pre X Y r ⟨h0,O,L⟩ hg hr;exact⟨h0,qi5 _ _ () X Y r O hg hr,br.out.own (Nat.le_refl _) L hg λq e=>(hr q e).1⟩
 case ownA =>
  rintro pre x a' _ X Y row ⟨hs,bi,O,L,h3⟩ hg hr
  exact⟨⟨hs.1,hs.2.1,qno () X Y row hs.2.2 hg hr⟩,bi,O,(hg.block bi L.lt λe=>by
   obtain⟨_,o',h4,h5⟩:=hr bi e.symm;rw[show X.heap[bi]? = _ from L]at h4
   cases h4
   cases h5).trans L,h3⟩
 case assign =>
  rintro l2 pre ⟨I,xv⟩ W ek ⟨h0,O,L,h3⟩ hG hK;unfold qke;simp only
  gi_wp2
  have hx:Ext W (W.alloc (.cells #[.int .i64 (I:Int)] 3)):=(Ext.refl W).alloc _;exact hK _ _ ((KeepsOthers.alloc _ _).from _) (Kc.of_bt hx.bt) ⟨h0,O.ext hx,L.ext hx,h3⟩ ⟨⟨hG.1,hG.2.1,hG.2.2.ext qad.good hx⟩,W.heap.size,O.size,Boxed.new W 3 _,rfl⟩
 case body =>
  rintro l2 pre ⟨I,xv⟩ a' W c5 c7 ⟨dw,aX,c9,cY⟩ ⟨⟨dC,dD,bK⟩,bi,el,ad,rfl⟩;simp only at dC dD bK ad;obtain rfl:=dC;obtain⟨k,hk⟩:=nm (pre.length);rw[hk]at dw c9 cY dD bK ad ⊢;have cU:Kp Z W0 W:=aX.kp λq _ hq=>(G.out q hq).2
  have bu:=Hd (de.out.move cU);have cI:=Hd (qaa.good.move df.out cU);have dd:=Hd (qaa.good.move dM.out cU);have ep:=aX.size;have x0:=aX.cell HB.out.1 (G.out _ bh).2;have cB:=aX.cell HB.out.2.1 (G.out _ aT).2;have bL:=aX.cell HB.out.2.2.1 (G.out _ aT).2;have bM:=aX.cell HB.out.2.2.2.1 (G.out _ a6).2;have dH:=aX.cell HB.out.2.2.2.2 (G.out _ a6).2;have xb:=ad.cell;have dW:=ad.lt;have ca:=qu2 s t A k;rw[HL.out.1,HL.out.2]at ca;obtain⟨m,hm⟩:∃m,t.tr.length+1-k=m+1:=⟨t.tr.length-k,by omega⟩
  obtain⟨r0,cd⟩:=c7;have b8:l2<W.heap.size:=(Array.getElem?_eq_some_iff.1 cd).1;have aD:=cY.out;rw[hm,qfj]at aD;obtain⟨d,bH⟩:=nm (qao s (t.tr.take k));have eh:d.length<=200000:=by rw[<- bH];have:=qqs s (t.tr.take k);have:=bD.2.2.2.1;omega
  rw[bH]at aD bK;have dg:=Hd bK;have aH:=Hd c9;have dc:=Hd aX;have dO:=Hd hk;have ej:=Hd ad;have bQ:=Hd ca;have dP:=Hd bH;obtain⟨A3,c3,rfl,_,_⟩:=(bK.sl qad.good (by decide)).val;clear bK c9 aX hk ad ca bH cY dw
  by_cases bJ:d=[]
  .rw [if_pos bJ]at aD;have d3:((d.length:Int) == 0)=true:=by rw[bJ];rfl
   have HG:=Hd aD;clear aD bJ
   gi_wp2_with fail
   refine⟨KeepsFrom.refl _ _,rfl,dc.out,?_⟩;rw[<- HG.out];exact aH.out
  rw[if_neg bJ]at aD;have HG:=Hd aD
  have d3:((d.length:Int) == 0)=false:=beq_eq_false_iff_ne.2 (by cases d with
   | nil=>exact absurd rfl bJ
   | cons a b=>simp only[List.length_cons];omega)
  clear aD bJ
  have b2:∀(Wf:World),Bt Zc W Wf->RBs base Wf (qgm s t k (qb4 s t.tr k (qaw s t A k).l)) (.slice A1 A.l.length k1)->RBs base Wf (qb6 s t.tr k d (qaw s t A k).e) (.slice A2 A.e.length k2)->∀y:Nat×Value,
    KeepsFrom W0.heap.size W Wf/\Kc Zc W0.heap.size W Wf/\(pre++[y]).length<=t.tr.length+1/\Bt Zc W0 Wf/\RCv base Wf (qaw s t A (pre++[y]).length) (.slice A1 A.l.length k1) (.slice A2 A.e.length k2)/\Hid (qfj s t (t.tr.length+1-(pre++[y]).length) (pre++[y]).length (qaw s t A (pre++[y]).length)=qa9 s t A):=λWf hb hl he y=>by
   have d4:(pre++[y]).length=k+1:=by rw[List.length_append,List.length_singleton,dO.out]
   have d9:qaw s t A (k+1)=⟨qgm s t k (qb4 s t.tr k (qaw s t A k).l),qb6 s t.tr k d (qaw s t A k).e⟩:=by show qhh s t k (qaw s t A k)=_;rw[qhh,dP.out]
   rw[d4];refine⟨qku hb _ λq o hn hz _=>by have:=J.out q hz;omega,Kc.of_bt hb,by omega,dc.out.trans hb,?_,?_⟩
   .rw [d9];exact⟨hl,he,aH.out.ap⟩
   show _=_;rw[show t.tr.length+1-(k+1)=m from by omega];exact HG.out
  have bG:=Hd b2;clear b2
  rcases Nat.eq_zero_or_pos k with c1 | c1
  .have d1:k<=0:=by omega
   have cv:=Hd (show qb4 s t.tr k (qaw s t A k).l=(qaw s t A k).l from by rw[c1];rfl);clear c1
   gi_wp2_with fail
   have cu:Hid (RBs base W (qb4 s t.tr k (qaw s t A k).l) (.slice A1 A.l.length k1)):=by show RBs _ _ _ _;rw[cv.out];exact aH.out.l
   have cr:Hid (RBs base W (qaw s t A k).e (.slice A2 A.e.length k2)):=aH.out.e;obtain⟨W3,cz⟩:=nm (W);have bO:Hid (Bt Zc W W3):=by show Bt _ _ _;rw[cz];exact Bt.refl _ _
   rw[cz]at cu cr;have cZ:=cz;rw[cz];clear cZ
   generalize decide (0<k)=bk
   gi_loopw [37] (λvi wr=>∃i:Nat,i<=d.length/\vi = .int .i64 i/\Bt Zc W wr/\RBs base wr (qb4 s t.tr k (qaw s t A k).l) (.slice A1 A.l.length k1)/\RBs base wr (qb6 s t.tr k (d.take i) (qaw s t A k).e) (.slice A2 A.e.length k2)) (λvi _=>d.length-(intOf vi).toNat)
   case atStart=>exact⟨0,Nat.zero_le _,rfl,bO.out,cu.out,cr.out⟩
   obtain⟨i,hi,rfl,ab,a1,aN⟩:=hrel
   have a9:Kp (λq=>Z q\/W0.heap.size<=q) W wr:=ab.kp λq _ hq hz=>by
    rcases hq with h | h
    .exact (G.out q h).2 hz
    have:=J.out q hz;omega
   by_cases cb:i<d.length
   .have ch:=(RSl.good qad.good).move ((RSl.good qad.good).mono (dg.out.sl qad.good (by decide)) (S':=λq=>Z q\/W0.heap.size<=q) λq _ h=>.inr (h.resolve_left id)) a9;obtain⟨b,V,cs,hA,hb,hT,hl,hr,ac⟩:=ch.get i cb;obtain rfl:=hA;obtain rfl:=hr.1;have s0:=(by simpa using ac.get 0 _:wr.cell? ⟨b,V+i,none⟩=some (.int .i64 d[i]))
    have y0:=ab.cell x0 (G.out _ bh).2;have af:=Hd ab;have aG:=Hd a1;have aE:=Hd aN;clear ab a1 aN ac hr hl hT ch
    gi_wp2_with fail
    refine⟨trivial,?_⟩
    gi_at_call 175
    refine(CallsIn.inRound l2 (qlv 2 (some ⟨g,0,none⟩) d[i] wr)).mono ?_;rintro e w' ⟨rfl,rfl⟩
    gi_wp2_with fail
    obtain⟨W2,av⟩:=nm ((wr.alloc (.cells #[.pointer (some ⟨g,0,none⟩)] 111)).alloc (.cells #[.int .i64 d[i]] 3));have dz:W2.heap.size=wr.heap.size+2:=by rw[<- av];show(World.heap _).size=_;simp
    have aJ:Ext wr W2:=by rw[<- av];exact((Ext.refl wr).alloc _).alloc _
    have cM:Boxed W2 wr.heap.size 111 (.pointer (some ⟨g,0,none⟩)):=by rw[<- av];exact((Boxed.new wr 111 _).alloc _)
    have cN:Boxed W2 (wr.heap.size+1) 3 (.int .i64 d[i]):=by rw[<- av];have:=Boxed.new (wr.alloc (.cells #[.pointer (some ⟨g,0,none⟩)] 111)) 3 (.int .i64 d[i]);rwa [World.size_alloc]at this
    rw[av];clear av;obtain⟨Z',bw⟩:∃Z':Nat->Prop,Z'=λq=>Z q\/q=wr.heap.size:=⟨_,rfl⟩
    have dB:=af.out.size
    have aK:∀q,Z' q->q<W2.heap.size/\¬ Zc q:=λq hq=>by
     rw[bw]at hq
     rcases hq with h | h
     .have:=G.out q h;exact⟨by omega,this.2⟩
     exact⟨by omega,λhz=>by have:=J.out q hz;omega⟩
    have cT:qaz Z' W2 g s:=((bu.out.move (af.out.kp λq _ hq=>(G.out q hq).2)).mono (S':=Z') λq _ h=>by rw[bw];exact .inl h).bel aJ;have bE:W2.heap[l2]? = some (.loop r0):=(aJ.block _ (by omega)).trans ((af.out.block _ b8 (λhz=>by have:=J.out _ hz;omega)).trans cd);have bc:RBs base W2 (qb4 s t.tr k (qaw s t A k).l) (.slice A1 A.l.length k1):=aG.out.ext qac.good aJ;have bb:RBs base W2 (qb6 s t.tr k (d.take i) (qaw s t A k).e) (.slice A2 A.e.length k2):=aE.out.ext qac.good aJ;have aL:Bt Zc W W2:=af.out.ext aJ
    refine wpIn_rangeFunc_ownN (l₀:=l2) rfl bE (by omega) (gf:=234) (lb:=#[.pointer (some ⟨wr.heap.size,0,none⟩),.pointer (some ⟨wr.heap.size+1,0,none⟩)]) rfl trivial (enters_of Tryz.func234 (by kernel_rfl) rfl)
     (SeqStopsK.inRound l2 (qk7 (3-1) (by omega) Z' s g wr.heap.size (wr.heap.size+1) d[i] (by rw[bw];exact .inr rfl) W2 cT cM.cell cN.cell)) kp_t (kp_b λq hq=>(aK q hq).1) (Below.refl _ _) (λ_=>rfl)
     (λpj X=>Bt Zc W2 X/\RBs base X (qb4 s t.tr k (qaw s t A k).l) (.slice A1 A.l.length k1)/\RBs base X (qdj s t.tr k pj (qb6 s t.tr k (d.take i) (qaw s t A k).e)) (.slice A2 A.e.length k2)) (λ_ _ _=>False) ?ownI (λ_ _ _ _ _ hs _ _=>hs)
     ⟨Bt.refl _ _,bc,bb⟩
     (λj a' X=>∃Bx,W2.heap.size<=Bx/\X.heap[Bx]? = some (.cells #[.int .i64 s.es[j].f,.int .i64 s.es[j].l,.int .i64 s.es[j].t] 88)/\a'={ tmps:=#[.pointer (some ⟨g,0,none⟩),.agg #[.slice A1 A.l.length k1,.slice A2 A.e.length k2],.agg #[.slice At t.tr.length ct,.slice Am t.mu.length cm],.pointer (some ⟨w.heap.size,0,none⟩),.pointer (some ⟨w.heap.size+1,0,none⟩),.pointer (some ⟨w.heap.size+2,0,none⟩),.pointer (some ⟨bi,0,none⟩),.slice (some ⟨b,V,none⟩) d.length c3,undef,.int .i64 d[i],.int .i64 (j.1:Int),.pointer (some ⟨Bx,0,none⟩),u12,undef,undef,.pointer (some ⟨g,0,none⟩),.pointer (some ⟨w.heap.size+2,0,none⟩),.slice At t.tr.length ct,.func (.func 220) #[] #[.pointer (some ⟨w.heap.size+3,0,none⟩),.pointer (some ⟨w.heap.size+4,0,none⟩)],.int .i64 (k:Int),.slice (some ⟨b,V,none⟩) d.length c3,.slice (some ⟨b,V,none⟩) d.length c3,.int .i64 (d.length:Int),.bool false,.int .i64 (k:Int),.bool bk,undef,undef,undef,undef,undef,undef,undef,undef,undef,.slice (some ⟨b,V,none⟩) d.length c3,.int .i64 (d.length:Int),.int .i64 (i:Int),.bool true,.pointer (some ⟨b,V+i,none⟩),.int .i64 d[i],.pointer (some ⟨g,0,none⟩),.int .i64 d[i],.func (.func 234) #[] #[.pointer (some ⟨wr.heap.size,0,none⟩),.pointer (some ⟨wr.heap.size+1,0,none⟩)],.int .i64 (j.1:Int),.agg #[.int .i64 s.es[j].f,.int .i64 s.es[j].l,.int .i64 s.es[j].t],u46,u47,u48,u49,u50,u51,u52,u53,u54,u55,u56,u57,u58,u59,u60,u61,u62,u63,u64,u65,u66,u67,u68,u69,u70,u71,u72,u73,u74,u75,u76,u77,u78,u79,u80,u81,u82,u83,undef,undef,undef,undef,undef,undef,undef,undef,undef,undef,undef,undef,undef,undef,undef,undef,undef],defers:=[] })
     (λj a' _ X Y row hs hg hr=>by
      obtain⟨Bx,O,L,h3⟩:=hs
      exact⟨Bx,O,(hg.block Bx (Array.getElem?_eq_some_iff.1 L).1 λe=>by
       obtain⟨_,o',h4,h5⟩:=hr Bx e.symm;rw[L]at h4
       cases h4
       cases h5).trans L,h3⟩)
     ?asgI ?bodyI ?doneI ?stopI
    case ownI =>
     rintro pj X Y r ⟨O,L,h3⟩ hg hr;exact⟨qi5 _ _ () X Y r O hg hr,qng bc (Nat.le_refl _) L hg λq e=>(hr q e).1,qng bb (Nat.le_refl _) h3 hg λq e=>(hr q e).1⟩
    case asgI =>
     rintro l3 pj j X K hI hK;unfold qig
     gi_wp2
     have hx:Ext X (X.alloc (.cells #[.int .i64 s.es[j].f,.int .i64 s.es[j].l,.int .i64 s.es[j].t] 88)):=(Ext.refl X).alloc _;exact hK _ _ ((KeepsOthers.alloc _ _).from _) (Ext.kp hx) ⟨hI.1.ext hx,hI.2.1.ext qac.good hx,hI.2.2.ext qac.good hx⟩ ⟨X.heap.size,hI.1.size,World.alloc_heap_new X _,rfl⟩
    case bodyI =>
     rintro l3 pj j a' X cA _ ⟨ax,a0,ai⟩ ⟨Bx,dU,ad,rfl⟩ _;obtain⟨I,al⟩:=j;have bZ:=(bD.2.2.2.2.2 I al).1
     have dv:0<=s.es[I].l/\s.es[I].l<s.ls.length:=by
      simp only[qb8,isB,Bool.and_eq_true,decide_eq_true_eq]at bZ;omega
     obtain⟨E,aZ⟩:∃E:Nat,s.es[I].l=(E:Int):=⟨s.es[I].l.toNat,by omega⟩
     have bd:E<s.ls.length:=by omega
     have b6:Kp Z W X:=(aL.trans ax).kp λq _ hq=>(G.out q hq).2
     have aW:Bt Zc W X:=aL.trans ax;obtain⟨v',u',m',f',O,L,h3,h4,h5,h6,h7,h8⟩:=(bu.out.move b6).ex;obtain⟨bl,ol,cl,dS,rfl,dX,dV,c6,a5,bA⟩:=L.at E bd;obtain⟨il,vl,rfl,cj⟩:=id a5;obtain⟨Al,M,rfl,_,_⟩:=cj.val;have g1:X.cell? ⟨g,1,none⟩=some (.slice (some ⟨bl,ol,none⟩) s.ls.length cl):=cell_of_row X _ 1 _ _ _ O;have gl:X.cell? ⟨bl,ol+E*2,none⟩=some (.int .i64 s.ls[E].g):=by simpa using bA.get 0 _
     have aV:X.cell? ⟨bl,ol+E*2+1,none⟩=some (.slice Al s.ls[E].v.length M):=bA.get 1 _;have e1:X.cell? ⟨Bx,1,none⟩=some (.int .i64 (E:Int)):=by rw[<- aZ];exact cell_of_row X _ 1 _ _ _ ad
     have y0:=aW.cell x0 (G.out _ bh).2;have aC:=aW.cell bL (G.out _ aT).2;have a7:=aW.cell bM (G.out _ a6).2;have yb:=aW.cell xb (λhz=>by have h5:=J.out bi hz;omega);have bU:=qaa.good.move cI.out b6;have cJ:=Hd bU;have ce:=a5;have dQ:=Hd (And.intro ax (And.intro a0 ai));have aP:qe2 s t.tr k s.es[I].l=(decide (s.ls[E].g = -1) || (match t.tr[k]? with | some x=>qat s.ls[E].g && decide (qak s.ls[E] x=0) | none=>false)):=qhb s _ aZ bd;have aF:=Hd aP;have ao:qdj s t.tr k (pj++[⟨I,al⟩]) (qb6 s t.tr k (d.take i) (qaw s t A k).e)=qf0 s t.tr k (qdj s t.tr k pj (qb6 s t.tr k (d.take i) (qaw s t A k).e)) ⟨I,al⟩:=qvw ..;obtain⟨au,aO⟩:=nm (qdj s t.tr k pj (qb6 s t.tr k (d.take i) (qaw s t A k).e));have b1:au.length=s.es.length:=by rw[<- aO,qlo,qmd];exact bQ.out.2
     rw[aO]at ao ai;obtain⟨g2,a8,cX⟩:=(by obtain⟨news,cg,_⟩:=ai;exact Joins.ownsRow_form cg (by omega):∃g2 a8,Value.slice A2 A.e.length k2 = .slice (some ⟨g2,0,none⟩) au.length a8)
     injection cX with he21 he22 he23
     subst he21;subst he23;have cp:I<au.length:=by omega
     obtain⟨ub,gc,ci,gf⟩:=qab.get1 ai I cp;obtain⟨bv,rfl⟩:∃bv,ub = .bool bv:=⟨au[I]'cp,by simpa[qac]using ci⟩
     have bf:qe2 s t.tr k s.es[I].l=false->∀N,Ext X N->KeepsFrom W2.heap.size X N/\Kp Z' X N/\Bt Zc W2 N/\RBs base N (qb4 s t.tr k (qaw s t A k).l) (.slice A1 A.l.length k1)/\RBs base N (qdj s t.tr k (pj++[⟨I,al⟩]) (qb6 s t.tr k (d.take i) (qaw s t A k).e)) (.slice (some ⟨g2,0,none⟩) A.e.length k2):=λhh N h4=>by
      refine⟨qfu h4 _,Ext.kp h4,ax.ext h4,a0.ext qac.good h4,?_⟩;rw[ao,qf0,if_neg (by rw[show s.es[(⟨I,al⟩:Fin s.es.length)]=s.es[I] from rfl,hh];decide)];exact ai.ext qac.good h4
     have aS:qe2 s t.tr k s.es[I].l=true->∀N,Ext X N->KeepsFrom W2.heap.size X (N.setCell ⟨g2,I,none⟩ (.bool true))/\Kp Z' X (N.setCell ⟨g2,I,none⟩ (.bool true))/\Bt Zc W2 (N.setCell ⟨g2,I,none⟩ (.bool true))/\RBs base (N.setCell ⟨g2,I,none⟩ (.bool true)) (qb4 s t.tr k (qaw s t A k).l) (.slice A1 A.l.length k1)/\RBs base (N.setCell ⟨g2,I,none⟩ (.bool true)) (qdj s t.tr k (pj++[⟨I,al⟩]) (qb6 s t.tr k (d.take i) (qaw s t A k).e)) (.slice (some ⟨g2,0,none⟩) A.e.length k2):=λhh N h4=>by
      have da:Zc g2:=by rw[aw];exact .inr rfl
      have bz:Bt Zc X (N.setCell ⟨g2,I,none⟩ (.bool true)):=Bt.set (p:=⟨g2,I,none⟩) h4.bt (.inr da) _;refine⟨qku bz _ λq o hn hz _=>by have:=J.out q hz;omega,bz.kp λq _ hq=>(aK q hq).2,ax.trans bz,?_,?_⟩
      .refine qe6 (a0.ext qac.good h4) (Bt.set (Z:=λq=>q=g2) (p:=⟨g2,I,none⟩) (Bt.refl _ N) (.inr rfl) (.bool true)) λq e e'=>?_
       subst e';exact aH.out.ap q e rfl
      rw[ao,qf0,if_pos (by rw[show s.es[(⟨I,al⟩:Fin s.es.length)]=s.es[I] from rfl,hh])];exact qab.put1 qac.good (ai.ext qac.good h4) he22 I (.bool true) true (by omega) rfl
     have bp:=Hd bf;have bS:=Hd aS;have dN:=Hd he22;have dE:I<A.e.length:=by omega
     have dF:(0:Int)<=(E:Int):=by omega
     have dG:(E:Int)<(s.ls.length:Int):=by omega
     have cH:=Hd a5;have dL:=Hd aZ;clear he22;clear bf aS aP ao ci b1 aO aZ ax a0 ai O L h3 h6 h7 h8 a5 ce bA cj bZ ad c6 bU
     gi_wp2_with fail
     refine wpIn_mono (Q:=Exit.then (λa' w'=>a'={ tmps:=#[.pointer (some ⟨g,0,none⟩),.agg #[.slice A1 A.l.length k1,.slice (some ⟨g2,0,none⟩) A.e.length k2],.agg #[.slice At t.tr.length ct,.slice Am t.mu.length cm],.pointer (some ⟨w.heap.size,0,none⟩),.pointer (some ⟨w.heap.size+1,0,none⟩),.pointer (some ⟨w.heap.size+2,0,none⟩),.pointer (some ⟨bi,0,none⟩),.slice (some ⟨b,V,none⟩) d.length c3,undef,.int .i64 d[i],.int .i64 (I:Int),.pointer (some ⟨Bx,0,none⟩),.pointer (some ⟨X.heap.size,0,none⟩),undef,undef,.pointer (some ⟨g,0,none⟩),.pointer (some ⟨w.heap.size+2,0,none⟩),.slice At t.tr.length ct,.func (.func 220) #[] #[.pointer (some ⟨w.heap.size+3,0,none⟩),.pointer (some ⟨w.heap.size+4,0,none⟩)],.int .i64 (k:Int),.slice (some ⟨b,V,none⟩) d.length c3,.slice (some ⟨b,V,none⟩) d.length c3,.int .i64 (d.length:Int),.bool false,.int .i64 (k:Int),.bool bk,undef,undef,undef,undef,undef,undef,undef,undef,undef,.slice (some ⟨b,V,none⟩) d.length c3,.int .i64 (d.length:Int),.int .i64 (i:Int),.bool true,.pointer (some ⟨b,V+i,none⟩),.int .i64 d[i],.pointer (some ⟨g,0,none⟩),.int .i64 d[i],.func (.func 234) #[] #[.pointer (some ⟨wr.heap.size,0,none⟩),.pointer (some ⟨wr.heap.size+1,0,none⟩)],.int .i64 (I:Int),.agg #[.int .i64 s.es[I].f,.int .i64 s.es[I].l,.int .i64 s.es[I].t],.pointer (some ⟨g,0,none⟩),.pointer (some ⟨g,0,none⟩),.pointer (some ⟨g,0,none⟩),.pointer (some ⟨g,1,none⟩),.slice (some ⟨bl,ol,none⟩) s.ls.length cl,.pointer (some ⟨Bx,1,none⟩),.int .i64 (E:Int),.pointer (some ⟨bl,ol+E*2,none⟩),.agg #[.int .i64 s.ls[E].g,.slice Al s.ls[E].v.length M],u55,u56,u57,u58,u59,u60,u61,u62,u63,u64,u65,u66,u67,u68,u69,u70,u71,u72,u73,u74,u75,u76,u77,u78,u79,u80,u81,u82,u83,undef,undef,undef,undef,undef,undef,undef,undef,undef,undef,undef,undef,undef,undef,undef,undef,undef],defers:=[] }/\w'=(X.alloc (.cells #[.int .i64 s.ls[E].g,.slice Al s.ls[E].v.length M] 61)).drew) (λ_ _ _=>False)) ?reg13 ?aft13
     case reg13 =>
      refine qps (l:=l3) (λY=>Y.cell? ⟨w.heap.size,0,none⟩=some (.pointer (some ⟨g,0,none⟩))/\Y.cell? ⟨g,1,none⟩=some (.slice (some ⟨bl,ol,none⟩) s.ls.length cl)/\Y.cell? ⟨Bx,1,none⟩=some (.int .i64 (E:Int))/\Y.cell? ⟨bl,ol+E*2,none⟩=some (.int .i64 s.ls[E].g)/\Y.cell? ⟨bl,ol+E*2+1,none⟩=some (.slice Al s.ls[E].v.length M)) (by kernel_rfl) (by kernel_rfl) (by rintro⟨_,_,h⟩;exact h) ⟨y0,g1,e1,gl,aV⟩ (λhHeld=>?_)
      (refine tk 0 ?_;try simp only[qae])
      (refine tk 1 ?_;try simp only[qae])
      (refine tk 2 ?_;try simp only[qae])
      (refine tk 3 ?_;try simp only[qae])
      (refine tk 4 ?_;try simp only[qae])
      (refine tk 5 ?_;try simp only[qae])
      (refine tk 6 ?_;try simp only[qae])
      (refine tk 7 ?_;try simp only[qae])
      (refine tk 8 ?_;try simp only[qae])
      refine wpAnyH_ready (rs:=[9]) (by kernel_rfl) (by simp) ?_;refine AllReadyH.cons rfl (λK hK=>?_) AllReadyH.nil;go_simp;have an:Ext X (X.alloc (.cells #[.int .i64 0,.slice none 0 0] 61)).drew:=Below.drew ((Ext.refl X).alloc _);refine hK.out _ _ ⟨Ext.keep an y0,Ext.keep an g1,Ext.keep an e1,Ext.keep an gl,Ext.keep an aV⟩ (λcw=>?_);refine wpAnyH_ready (rs:=[10]) (by kernel_rfl) (by simp) ?_;refine AllReadyH.cons rfl (λK2 cS=>?_) AllReadyH.nil;go_simp;have F:Ext X (X.alloc (.cells #[.int .i64 s.ls[E].g,.slice Al s.ls[E].v.length M] 61)).drew:=Below.drew ((Ext.refl X).alloc _);refine cS.out _ _ ⟨Ext.keep F y0,Ext.keep F g1,Ext.keep F e1,Ext.keep F gl,Ext.keep F aV⟩ (λcy=>?_);refine wpAnyH_done (by kernel_rfl) ?_ _;exact⟨rfl,rfl⟩
     case aft13 =>
      rintro e a4 W4 h
      cases e with
      | normal =>
       obtain⟨rfl,rfl⟩:=h;have F:Ext X (X.alloc (.cells #[.int .i64 s.ls[E].g,.slice Al s.ls[E].v.length M] 61)).drew:=Below.drew ((Ext.refl X).alloc _);have z0:(X.alloc (.cells #[.int .i64 s.ls[E].g,.slice Al s.ls[E].v.length M] 61)).drew.cell? ⟨X.heap.size,0,none⟩=some (.int .i64 s.ls[E].g):=by go_simp
       have z1:(X.alloc (.cells #[.int .i64 s.ls[E].g,.slice Al s.ls[E].v.length M] 61)).drew.cell? ⟨X.heap.size,1,none⟩=some (.slice Al s.ls[E].v.length M):=by go_simp
       obtain⟨Xa,bW⟩:=nm ((X.alloc (.cells #[.int .i64 s.ls[E].g,.slice Al s.ls[E].v.length M] 61)).drew);rw[bW]at F z0 z1 ⊢;clear bW g1 gl aV e1;have y0:=Ext.keep F y0;have aC:=Ext.keep F aC;have a7:=Ext.keep F a7;have yb:=Ext.keep F yb;have ag:=λY=>qj0 s.ls[E].g (.slice Al s.ls[E].v.length M) (qam Xa Y)
       by_cases az:s.ls[E].g = -1
       .have cV:(s.ls[E].g == -1)=true:=beq_iff_eq.2 az;have aq:=Hd az;clear az ag
        gi_wp2_with fail
        (refine qds (by kernel_rfl) (by kernel_rfl) (by kernel_rfl) ?_;(repeat (first | go_big_quiet_step ((fail)) | quiet_step ((fail))));refine wpQuiet_nil ?_)
        intro N U;have ak:=F.trans' U;have aC:=Ext.keep U aC;have cP:=Ext.keep ak gc;have cQ:=qdy ak (World.block_lt_of_cell? X _ gc) gf
        gi_wp2
        exact bS.out (by rw[aF.out];rw[decide_eq_true aq.out];rfl) N ak
       have cV:(s.ls[E].g == -1)=false:=beq_eq_false_iff_ne.2 az;have aq:=Hd az;clear az
       by_cases aj:k<t.tr.length
       case neg =>
        have b7:decide ((k:Int)<(t.tr.length:Int))=false:=decide_eq_false (by omega)
        gi_wp2_with fail
        (refine qds (by kernel_rfl) (by kernel_rfl) (by kernel_rfl) ?_;(repeat (first | go_big_quiet_step ((fail)) | quiet_step ((fail))));refine wpQuiet_nil ?_)
        intro N U
        gi_wp2
        exact bp.out (by rw[aF.out];rw[decide_eq_false aq.out,List.getElem?_eq_none (by omega)];rfl) N (F.trans' U)
       have b7:decide ((k:Int)<(t.tr.length:Int))=true:=decide_eq_true (by omega);have ah:=Hd (List.getElem?_eq_getElem aj)
       by_cases aB:qat s.ls[E].g=true
       case neg =>
        have hv:∀Y,Calls Tryz.prog 176 #[.agg #[.int .i64 s.ls[E].g,.slice Al s.ls[E].v.length M]] (qam Xa Y) λe w'=>e = .returned (.bool false)/\Ext (qam Xa Y) w':=λY=>by have:=ag Y;rwa [eq_false_of_ne_true aB]at this
        have aU:=Hd (eq_false_of_ne_true aB);clear ag aB
        gi_wp2_with fail
        (refine qds (by kernel_rfl) (by kernel_rfl) (by kernel_rfl) ?_;(repeat (first | go_big_quiet_step ((go_at_call 176;exact qbh (hv _))) | quiet_step ((go_at_call 176;exact qbh (hv _)))));refine wpQuiet_nil ?_)
        intro N U
        gi_wp2
        exact bp.out (by rw[aF.out];rw[decide_eq_false aq.out,ah.out];simp only[aU.out];rfl) N (F.trans' U)
       have hv:∀Y,Calls Tryz.prog 176 #[.agg #[.int .i64 s.ls[E].g,.slice Al s.ls[E].v.length M]] (qam Xa Y) λe w'=>e = .returned (.bool true)/\Ext (qam Xa Y) w':=λY=>by have:=ag Y;rwa [aB]at this
       have aU:=Hd aB;clear ag aB;have bV:=qaa.good.bel cJ.out F;obtain⟨bq,oq,cq,hA,dY,_,c8,bF,bB⟩:=bV.get k aj;obtain rfl:=hA;obtain⟨_,vq,rfl,ck⟩:=id bF;obtain⟨Aq,dT,rfl,_,_⟩:=ck.val;have t0:=bB.get 0 _;have t1:=bB.get 1 _;simp only[Nat.add_zero]at t0;have am:=λY=>qi2 _ s.ls[E] t.tr[k] _ _ (qam Xa Y) (RLb.good.bel cH.out (F.trans' (qa7 Xa Y))) (RLb.good.bel bF (qa7 Xa Y))
       clear bV c8 bF bB ck
       by_cases ay:qak s.ls[E] t.tr[k]=0
       case neg =>
        have cW:(qak s.ls[E] t.tr[k] == 0)=false:=beq_eq_false_iff_ne.2 ay;have bn:=Hd ay;clear ay
        gi_wp2_with fail
        (refine qds (by kernel_rfl) (by kernel_rfl) (by kernel_rfl) ?_;(repeat (first | go_big_quiet_step ((first | (go_at_call 176;exact qbh (hv _)) | (go_at_call 166;exact qaq (am _)))) | quiet_step ((first | (go_at_call 176;exact qbh (hv _)) | (go_at_call 166;exact qaq (am _))))));refine wpQuiet_nil ?_)
        intro N U
        gi_wp2
        exact bp.out (by rw[aF.out];rw[decide_eq_false aq.out,ah.out];simp only[aU.out,decide_eq_false bn.out];rfl) N (F.trans' U)
       have cW:(qak s.ls[E] t.tr[k] == 0)=true:=beq_iff_eq.2 ay;have bn:=Hd ay;clear ay
       gi_wp2_with fail
       (refine qds (by kernel_rfl) (by kernel_rfl) (by kernel_rfl) ?_;(repeat (first | go_big_quiet_step ((first | (go_at_call 176;exact qbh (hv _)) | (go_at_call 166;exact qaq (am _)))) | quiet_step ((first | (go_at_call 176;exact qbh (hv _)) | (go_at_call 166;exact qaq (am _))))));refine wpQuiet_nil ?_)
       intro N U;have ak:=F.trans' U;have aC:=Ext.keep U aC;have cP:=Ext.keep ak gc;have cQ:=qdy ak (World.block_lt_of_cell? X _ gc) gf
       gi_wp2
       exact bS.out (by rw[aF.out];rw[decide_eq_false aq.out,ah.out];simp only[aU.out,decide_eq_true bn.out];rfl) N ak
      | _=>exact h.elim
    case doneI =>
     rintro ys X rfl ⟨O,L,h3⟩;have cK:=Hd O;have cL:=Hd L;have bR:=Hd h3;clear O L h3
     gi_wp2_with fail
     go_roundw
     case rel =>
      refine⟨i+1,by omega,by go_num,aL.trans cK.out,cL.out,?_⟩;rw[List.take_succ_eq_append_getElem cb,qvf];exact bR.out
     simp[intOf];omega
    case stopI =>
     rintro c pj X _ h _;exact h.elim
   obtain rfl:i=d.length:=by omega
   rw[List.take_length]at aN;have a7:=ab.cell bM (G.out _ a6).2;have db:=ab.cell dH (G.out _ a6).2;have yb:=ab.cell xb (λhz=>by have h5:=J.out bi hz;omega);have af:=Hd ab;have aG:=Hd a1;have aE:=Hd aN;clear ab a1 aN
   by_cases aj:k=t.tr.length
   case neg =>
    have c4:((k:Int) == (t.tr.length:Int))=false:=beq_eq_false_iff_ne.2 (by omega);have ah:=Hd aj;clear aj
    gi_wp2_with fail
    exact bG.out _ af.out (by rw[qgm,if_neg ah.out];exact aG.out) aE.out _
   have c4:((k:Int) == (t.tr.length:Int))=true:=beq_iff_eq.2 (by omega);have ah:=Hd aj;clear aj
   gi_wp2_with fail
   obtain⟨wb,cn⟩:=nm (wr);rw[cn]at af aG aE a7 db yb a9 ⊢;clear cn
   gi_loopw [92] (λvi wr=>∃jm:Nat,jm<=t.mu.length/\vi = .int .i64 jm/\Bt Zc W wr/\RBs base wr (qfx s (t.mu.take jm) (qb4 s t.tr k (qaw s t A k).l)) (.slice A1 A.l.length k1)/\RBs base wr (qb6 s t.tr k d (qaw s t A k).e) (.slice A2 A.e.length k2)) (λvi _=>t.mu.length-(intOf vi).toNat)
   case atStart=>exact⟨0,Nat.zero_le _,rfl,af.out,by rw[List.take_zero];exact aG.out,aE.out⟩
   obtain⟨jm,d0,rfl,aa,aA,aY⟩:=hrel
   by_cases be:jm<t.mu.length
   .have b5:Kp Z W wr:=aa.kp λq _ hq=>(G.out q hq).2
    obtain⟨bm,om,dR,cR,ds,_,b9,aR,aM⟩:=(qaa.good.move dd.out b5).get jm be;obtain rfl:=cR;obtain⟨_,ed,rfl,bg⟩:=id aR;obtain⟨Ax6,cO,rfl,_,_⟩:=bg.val;have m0:=aM.get 0 _;have m1:=aM.get 1 _;simp only[Nat.add_zero]at m0;have z0:=aa.cell x0 (G.out _ bh).2;have ee:=aa.cell cB (G.out _ aT).2;have ef:=aa.cell bL (G.out _ aT).2;have aQ:(qfx s (t.mu.take jm) (qb4 s t.tr k (qaw s t A k).l)).length=s.ls.length:=by rw[qn1,qln];exact bQ.out.1
    have a2:=λX (hX:Ext wr X)=>mark_c Z s g t.mu[jm] (qfx s (t.mu.take jm) (qb4 s t.tr k (qaw s t A k).l)) base _ (.slice A2 A.e.length k2) _ X ((bu.out.move b5).bel hX) (RLb.good.bel aR hX) (aA.ext qac.good hX) ⟨_,_,_,rfl⟩ aQ (by have:=bD.2.2.1;omega)
    have d7:=aa.size;have d5:w.heap.size<wr.heap.size:=by omega
    have dy:w.heap.size+1<wr.heap.size:=by omega
    have bj:=Hd aa;have bo:=Hd aY;have bP:=Hd aA;clear aa aA aY aR aM bg b9 aQ
    gi_wp2_with fail
    refine⟨trivial,?_⟩
    gi_at_call 174
    refine(CallsIn.inRound l2 (callsIn_wide.2 (a2 _ bel))).mono ?_;rintro e w7 ⟨rfl,cc,bx⟩;have co:Ext wr (wr.alloc (.cells #[.int .i64 t.mu[jm].g,.slice Ax6 t.mu[jm].v.length cO] 61)):=(Ext.refl wr).alloc _;have ba:Bt Zc W w7:=(bj.out.ext co).trans (bx.mono λq _ e=>by rw[aw];exact .inl e);have bY:RBs base w7 (qb6 s t.tr k d (qaw s t A k).e) (.slice A2 A.e.length k2):=qe6 (bo.out.ext qac.good co) bx λq e e'=>aH.out.ap q e' e
    have cD:=Hd ba;have cE:=Hd bY;have cG:=Hd cc;clear bx ba bY cc a2
    gi_wp2_with fail
    go_roundw
    case rel =>
     refine⟨jm+1,by omega,by go_num,cD.out,?_,cE.out⟩;rw[List.take_succ_eq_append_getElem be,qs2];exact cG.out
    simp[intOf];omega
   obtain rfl:jm=t.mu.length:=by omega
   rw[List.take_length]at aA;have bj:=Hd aa;have bo:=Hd aY;have bP:=Hd aA;clear aa aA aY
   gi_wp2_with fail
   exact bG.out _ bj.out (by rw[qgm,if_pos ah.out];exact bP.out) bo.out _
  have d1:1<=k:=by omega
  have an:k-1<t.tr.length:=by omega
  obtain⟨bt,ot,cs,hA,hb,dt,hl,hr,ac⟩:=cI.out.get (k-1) an;have dI:=Hd hA;obtain⟨ig,vx,rfl,dA⟩:=id hr;obtain⟨Ax,cx,rfl,_,_⟩:=dA.val;have t0:=ac.get 0 _;have t1:=ac.get 1 _;simp only[Nat.add_zero]at t0;have d2:(k:Int)-1=((k-1:Nat):Int):=by omega
  have cv:=Hd (show qb4 s t.tr k (qaw s t A k).l=qe8 s t.tr[k-1] (qaw s t A k).l from by rw[qb4,if_neg (by omega),List.getElem?_eq_getElem an]);have a2:=λX (hX:Ext W X)=>mark_c Z s g t.tr[k-1] (qaw s t A k).l base _ (.slice A2 A.e.length k2) _ X (bu.out.bel hX) (RLb.good.bel hr hX) (aH.out.l.ext qac.good hX) ⟨_,_,_,rfl⟩ bQ.out.1 (by have:=bD.2.2.1;omega)
  obtain⟨q,hq⟩:=nm (k-1);have dy:0<=(q:Int):=by omega
  have eo:(q:Int)<(t.tr.length:Int):=by omega
  simp only[hq]at t0 t1 d2 a2 cv;have y1:IntKind.i64.wrap (q:Int)=(q:Int):=IntWalk.i64_in _ (by omega);clear hA dA hr hl ac
  gi_wp2_with fail
  refine wpIn_mono (Q:=Exit.then (λa' w'=>a'={ tmps:=#[.pointer (some ⟨g,0,none⟩),.agg #[.slice A1 A.l.length k1,.slice A2 A.e.length k2],.agg #[.slice At t.tr.length ct,.slice Am t.mu.length cm],.pointer (some ⟨w.heap.size,0,none⟩),.pointer (some ⟨w.heap.size+1,0,none⟩),.pointer (some ⟨w.heap.size+2,0,none⟩),.pointer (some ⟨bi,0,none⟩),.slice A3 d.length c3,undef,undef,undef,undef,undef,undef,undef,.pointer (some ⟨g,0,none⟩),.pointer (some ⟨w.heap.size+2,0,none⟩),.slice At t.tr.length ct,.func (.func 220) #[] #[.pointer (some ⟨w.heap.size+3,0,none⟩),.pointer (some ⟨w.heap.size+4,0,none⟩)],.int .i64 (k:Int),.slice A3 d.length c3,.slice A3 d.length c3,.int .i64 (d.length:Int),.bool false,.int .i64 (k:Int),.bool true,.pointer (some ⟨g,0,none⟩),.agg #[.slice A1 A.l.length k1,.slice A2 A.e.length k2],.pointer (some ⟨w.heap.size+2,0,none⟩),.slice At t.tr.length ct,.int .i64 (k:Int),.int .i64 (q:Int),.pointer (some ⟨bt,ot+q*2,none⟩),.agg #[.int .i64 t.tr[q].g,.slice Ax t.tr[q].v.length cx],.tuple #[],undef,undef,undef,undef,undef,undef,undef,undef,undef,undef,undef,undef,undef,undef,undef,undef,undef,undef,undef,undef,undef,undef,undef,undef,undef,undef,undef,undef,undef,undef,undef,undef,undef,undef,undef,undef,undef,undef,undef,undef,undef,undef,undef,undef,undef,undef,undef,undef,undef,undef,undef,undef,undef,undef,undef,undef,undef,undef,undef,undef,undef,undef,undef,undef,undef,undef],defers:=[] }/\RBs base w' (qb4 s t.tr k (qaw s t A k).l) (.slice A1 A.l.length k1)/\Bt (λq=>(Value.slice A1 A.l.length k1).ownBlock=some q) W w') (λ_ _ _=>False)) ?reg ?aft
  case reg =>
   obtain rfl:=dI.out;refine qps (λX=>X.cell? ⟨w.heap.size,0,none⟩=some (.pointer (some ⟨g,0,none⟩))/\X.cell? ⟨w.heap.size+1,0,none⟩=some (.slice A1 A.l.length k1)/\X.cell? ⟨w.heap.size+1,1,none⟩=some (.slice A2 A.e.length k2)/\X.cell? ⟨w.heap.size+2,0,none⟩=some (.slice (some ⟨bt,ot,none⟩) t.tr.length ct)/\X.cell? ⟨bi,0,none⟩=some (.int .i64 (k:Int))/\X.cell? ⟨bt,ot+q*2,none⟩=some (.int .i64 t.tr[q].g)/\X.cell? ⟨bt,ot+q*2+1,none⟩=some (.slice Ax t.tr[q].v.length cx)) (by kernel_rfl) (by kernel_rfl) (by rintro⟨_,_,h⟩;exact h) ⟨x0,cB,bL,bM,xb,t0,t1⟩ (λhHeld=>?_)
   (refine tk 0 ?_;try simp only[qae])
   (refine tk 1 ?_;try simp only[qae])
   (refine tk 2 ?_;try simp only[qae])
   (refine tk 3 ?_;try simp only[qae])
   (refine tk 4 ?_;try simp only[qae])
   (refine tk 5 ?_;try simp only[qae])
   (refine tk 6 ?_;try simp only[qae])
   (refine tk 7 ?_;try simp only[qae])
   refine wpAnyH_ready (rs:=[8]) (by kernel_rfl) (by simp) ?_;refine AllReadyH.cons rfl (λK hK=>?_) AllReadyH.nil;go_simp;refine(a2 _ (Below.drew (Ext.refl W))).mono ?_;rintro e w3 ⟨rfl,d6,ae⟩
   have bC:∀q,Z q\/w.heap.size+5<=q->(Value.slice A1 A.l.length k1).ownBlock≠some q:=λq hq e=>by
    have O:Zc q:=by rw[aw];exact .inl e
    rcases hq with h | h
    .exact (G.out q h).2 O
    have:=J.out q O;omega
   refine hK.out _ _ ⟨ae.cell x0 (bC _ (.inl bh)),ae.cell cB (bC _ (.inl aT)),ae.cell bL (bC _ (.inl aT)),ae.cell bM (bC _ (.inl a6)),ae.cell xb (bC _ (.inr (by show _<=bi;omega))),ae.cell t0 (bC _ (.inl dt)),ae.cell t1 (bC _ (.inl dt))⟩ (λhHeld=>?_);refine wpAnyH_done (by kernel_rfl) ?_ _;exact⟨rfl,by rw[cv.out];exact d6,(Ext.bt (Below.drew (Ext.refl W))).trans ae⟩
  rintro e a3 W3 h
  cases e with
  | normal =>
   obtain⟨rfl,cA,ae⟩:=h;have cu:=Hd cA;have cC:Bt Zc W W3:=ae.mono λq _ e=>by rw[aw];exact .inl e
   have cr:Hid (RBs base W3 (qaw s t A k).e (.slice A2 A.e.length k2)):=qe6 aH.out.e ae λq e e'=>aH.out.ap q e' e
   have bO:=Hd cC;clear cA ae cC a2
   gi_wp2
   gi_loopw [37] (λvi wr=>∃i:Nat,i<=d.length/\vi = .int .i64 i/\Bt Zc W wr/\RBs base wr (qb4 s t.tr k (qaw s t A k).l) (.slice A1 A.l.length k1)/\RBs base wr (qb6 s t.tr k (d.take i) (qaw s t A k).e) (.slice A2 A.e.length k2)) (λvi _=>d.length-(intOf vi).toNat)
   case atStart=>exact⟨0,Nat.zero_le _,rfl,bO.out,cu.out,cr.out⟩
   obtain⟨i,hi,rfl,ab,a1,aN⟩:=hrel
   have a9:Kp (λq=>Z q\/W0.heap.size<=q) W wr:=ab.kp λq _ hq hz=>by
    rcases hq with h | h
    .exact (G.out q h).2 hz
    have:=J.out q hz;omega
   by_cases cb:i<d.length
   .have ch:=(RSl.good qad.good).move ((RSl.good qad.good).mono (dg.out.sl qad.good (by decide)) (S':=λq=>Z q\/W0.heap.size<=q) λq _ h=>.inr (h.resolve_left id)) a9;obtain⟨b,V,cs,hA,hb,hT,hl,hr,ac⟩:=ch.get i cb;obtain rfl:=hA;obtain rfl:=hr.1;have s0:=(by simpa using ac.get 0 _:wr.cell? ⟨b,V+i,none⟩=some (.int .i64 d[i]))
    have y0:=ab.cell x0 (G.out _ bh).2;have af:=Hd ab;have aG:=Hd a1;have aE:=Hd aN;clear ab a1 aN ac hr hl hT ch
    gi_wp2_with fail
    refine⟨trivial,?_⟩
    gi_at_call 175
    refine(CallsIn.inRound l2 (qlv 2 (some ⟨g,0,none⟩) d[i] wr)).mono ?_;rintro e w' ⟨rfl,rfl⟩
    gi_wp2_with fail
    obtain⟨W2,av⟩:=nm ((wr.alloc (.cells #[.pointer (some ⟨g,0,none⟩)] 111)).alloc (.cells #[.int .i64 d[i]] 3));have dz:W2.heap.size=wr.heap.size+2:=by rw[<- av];show(World.heap _).size=_;simp
    have aJ:Ext wr W2:=by rw[<- av];exact((Ext.refl wr).alloc _).alloc _
    have cM:Boxed W2 wr.heap.size 111 (.pointer (some ⟨g,0,none⟩)):=by rw[<- av];exact((Boxed.new wr 111 _).alloc _)
    have cN:Boxed W2 (wr.heap.size+1) 3 (.int .i64 d[i]):=by rw[<- av];have:=Boxed.new (wr.alloc (.cells #[.pointer (some ⟨g,0,none⟩)] 111)) 3 (.int .i64 d[i]);rwa [World.size_alloc]at this
    rw[av];clear av;obtain⟨Z',bw⟩:∃Z':Nat->Prop,Z'=λq=>Z q\/q=wr.heap.size:=⟨_,rfl⟩
    have dB:=af.out.size
    have aK:∀q,Z' q->q<W2.heap.size/\¬ Zc q:=λq hq=>by
     rw[bw]at hq
     rcases hq with h | h
     .have:=G.out q h;exact⟨by omega,this.2⟩
     exact⟨by omega,λhz=>by have:=J.out q hz;omega⟩
    have cT:qaz Z' W2 g s:=((bu.out.move (af.out.kp λq _ hq=>(G.out q hq).2)).mono (S':=Z') λq _ h=>by rw[bw];exact .inl h).bel aJ;have bE:W2.heap[l2]? = some (.loop r0):=(aJ.block _ (by omega)).trans ((af.out.block _ b8 (λhz=>by have:=J.out _ hz;omega)).trans cd);have bc:RBs base W2 (qb4 s t.tr k (qaw s t A k).l) (.slice A1 A.l.length k1):=aG.out.ext qac.good aJ;have bb:RBs base W2 (qb6 s t.tr k (d.take i) (qaw s t A k).e) (.slice A2 A.e.length k2):=aE.out.ext qac.good aJ;have aL:Bt Zc W W2:=af.out.ext aJ
    refine wpIn_rangeFunc_ownN (l₀:=l2) rfl bE (by omega) (gf:=234) (lb:=#[.pointer (some ⟨wr.heap.size,0,none⟩),.pointer (some ⟨wr.heap.size+1,0,none⟩)]) rfl trivial (enters_of Tryz.func234 (by kernel_rfl) rfl)
     (SeqStopsK.inRound l2 (qk7 (3-1) (by omega) Z' s g wr.heap.size (wr.heap.size+1) d[i] (by rw[bw];exact .inr rfl) W2 cT cM.cell cN.cell)) kp_t (kp_b λq hq=>(aK q hq).1) (Below.refl _ _) (λ_=>rfl)
     (λpj X=>Bt Zc W2 X/\RBs base X (qb4 s t.tr k (qaw s t A k).l) (.slice A1 A.l.length k1)/\RBs base X (qdj s t.tr k pj (qb6 s t.tr k (d.take i) (qaw s t A k).e)) (.slice A2 A.e.length k2)) (λ_ _ _=>False) ?ownI (λ_ _ _ _ _ hs _ _=>hs)
     ⟨Bt.refl _ _,bc,bb⟩
     (λj a' X=>∃Bx,W2.heap.size<=Bx/\X.heap[Bx]? = some (.cells #[.int .i64 s.es[j].f,.int .i64 s.es[j].l,.int .i64 s.es[j].t] 88)/\a'={ tmps:=#[.pointer (some ⟨g,0,none⟩),.agg #[.slice A1 A.l.length k1,.slice A2 A.e.length k2],.agg #[.slice At t.tr.length ct,.slice Am t.mu.length cm],.pointer (some ⟨w.heap.size,0,none⟩),.pointer (some ⟨w.heap.size+1,0,none⟩),.pointer (some ⟨w.heap.size+2,0,none⟩),.pointer (some ⟨bi,0,none⟩),.slice (some ⟨b,V,none⟩) d.length c3,undef,.int .i64 d[i],.int .i64 (j.1:Int),.pointer (some ⟨Bx,0,none⟩),u12,undef,undef,.pointer (some ⟨g,0,none⟩),.pointer (some ⟨w.heap.size+2,0,none⟩),.slice At t.tr.length ct,.func (.func 220) #[] #[.pointer (some ⟨w.heap.size+3,0,none⟩),.pointer (some ⟨w.heap.size+4,0,none⟩)],.int .i64 (k:Int),.slice (some ⟨b,V,none⟩) d.length c3,.slice (some ⟨b,V,none⟩) d.length c3,.int .i64 (d.length:Int),.bool false,.int .i64 (k:Int),.bool true,.pointer (some ⟨g,0,none⟩),.agg #[.slice A1 A.l.length k1,.slice A2 A.e.length k2],.pointer (some ⟨w.heap.size+2,0,none⟩),.slice At t.tr.length ct,.int .i64 (k:Int),.int .i64 (q:Int),.pointer (some ⟨bt,ot+q*2,none⟩),.agg #[.int .i64 t.tr[q].g,.slice Ax t.tr[q].v.length cx],.tuple #[],.slice (some ⟨b,V,none⟩) d.length c3,.int .i64 (d.length:Int),.int .i64 (i:Int),.bool true,.pointer (some ⟨b,V+i,none⟩),.int .i64 d[i],.pointer (some ⟨g,0,none⟩),.int .i64 d[i],.func (.func 234) #[] #[.pointer (some ⟨wr.heap.size,0,none⟩),.pointer (some ⟨wr.heap.size+1,0,none⟩)],.int .i64 (j.1:Int),.agg #[.int .i64 s.es[j].f,.int .i64 s.es[j].l,.int .i64 s.es[j].t],u46,u47,u48,u49,u50,u51,u52,u53,u54,u55,u56,u57,u58,u59,u60,u61,u62,u63,u64,u65,u66,u67,u68,u69,u70,u71,u72,u73,u74,u75,u76,u77,u78,u79,u80,u81,u82,u83,undef,undef,undef,undef,undef,undef,undef,undef,undef,undef,undef,undef,undef,undef,undef,undef,undef],defers:=[] })
     (λj a' _ X Y row hs hg hr=>by
      obtain⟨Bx,O,L,h3⟩:=hs
      exact⟨Bx,O,(hg.block Bx (Array.getElem?_eq_some_iff.1 L).1 λe=>by
       obtain⟨_,o',h4,h5⟩:=hr Bx e.symm;rw[L]at h4
       cases h4
       cases h5).trans L,h3⟩)
     ?asgI ?bodyI ?doneI ?stopI
    case ownI =>
     rintro pj X Y r ⟨O,L,h3⟩ hg hr;exact⟨qi5 _ _ () X Y r O hg hr,qng bc (Nat.le_refl _) L hg λq e=>(hr q e).1,qng bb (Nat.le_refl _) h3 hg λq e=>(hr q e).1⟩
    case asgI =>
     rintro l3 pj j X K hI hK;unfold qig
     gi_wp2
     have hx:Ext X (X.alloc (.cells #[.int .i64 s.es[j].f,.int .i64 s.es[j].l,.int .i64 s.es[j].t] 88)):=(Ext.refl X).alloc _;exact hK _ _ ((KeepsOthers.alloc _ _).from _) (Ext.kp hx) ⟨hI.1.ext hx,hI.2.1.ext qac.good hx,hI.2.2.ext qac.good hx⟩ ⟨X.heap.size,hI.1.size,World.alloc_heap_new X _,rfl⟩
    case bodyI =>
     rintro l3 pj j a' X cA _ ⟨ax,a0,ai⟩ ⟨Bx,dU,ad,rfl⟩ _;obtain⟨I,al⟩:=j;have bZ:=(bD.2.2.2.2.2 I al).1
     have dv:0<=s.es[I].l/\s.es[I].l<s.ls.length:=by
      simp only[qb8,isB,Bool.and_eq_true,decide_eq_true_eq]at bZ;omega
     obtain⟨E,aZ⟩:∃E:Nat,s.es[I].l=(E:Int):=⟨s.es[I].l.toNat,by omega⟩
     have bd:E<s.ls.length:=by omega
     have b6:Kp Z W X:=(aL.trans ax).kp λq _ hq=>(G.out q hq).2
     have aW:Bt Zc W X:=aL.trans ax;obtain⟨v',u',m',f',O,L,h3,h4,h5,h6,h7,h8⟩:=(bu.out.move b6).ex;obtain⟨bl,ol,cl,dS,rfl,dX,dV,c6,a5,bA⟩:=L.at E bd;obtain⟨il,vl,rfl,cj⟩:=id a5;obtain⟨Al,M,rfl,_,_⟩:=cj.val;have g1:X.cell? ⟨g,1,none⟩=some (.slice (some ⟨bl,ol,none⟩) s.ls.length cl):=cell_of_row X _ 1 _ _ _ O;have gl:X.cell? ⟨bl,ol+E*2,none⟩=some (.int .i64 s.ls[E].g):=by simpa using bA.get 0 _
     have aV:X.cell? ⟨bl,ol+E*2+1,none⟩=some (.slice Al s.ls[E].v.length M):=bA.get 1 _;have e1:X.cell? ⟨Bx,1,none⟩=some (.int .i64 (E:Int)):=by rw[<- aZ];exact cell_of_row X _ 1 _ _ _ ad
     have y0:=aW.cell x0 (G.out _ bh).2;have aC:=aW.cell bL (G.out _ aT).2;have a7:=aW.cell bM (G.out _ a6).2;have yb:=aW.cell xb (λhz=>by have h5:=J.out bi hz;omega);have bU:=qaa.good.move cI.out b6;have cJ:=Hd bU;have ce:=a5;have dQ:=Hd (And.intro ax (And.intro a0 ai));have aP:qe2 s t.tr k s.es[I].l=(decide (s.ls[E].g = -1) || (match t.tr[k]? with | some x=>qat s.ls[E].g && decide (qak s.ls[E] x=0) | none=>false)):=qhb s _ aZ bd;have aF:=Hd aP;have ao:qdj s t.tr k (pj++[⟨I,al⟩]) (qb6 s t.tr k (d.take i) (qaw s t A k).e)=qf0 s t.tr k (qdj s t.tr k pj (qb6 s t.tr k (d.take i) (qaw s t A k).e)) ⟨I,al⟩:=qvw ..;obtain⟨au,aO⟩:=nm (qdj s t.tr k pj (qb6 s t.tr k (d.take i) (qaw s t A k).e));have b1:au.length=s.es.length:=by rw[<- aO,qlo,qmd];exact bQ.out.2
     rw[aO]at ao ai;obtain⟨g2,a8,cX⟩:=(by obtain⟨news,cg,_⟩:=ai;exact Joins.ownsRow_form cg (by omega):∃g2 a8,Value.slice A2 A.e.length k2 = .slice (some ⟨g2,0,none⟩) au.length a8)
     injection cX with he21 he22 he23
     subst he21;subst he23;have cp:I<au.length:=by omega
     obtain⟨ub,gc,ci,gf⟩:=qab.get1 ai I cp;obtain⟨bv,rfl⟩:∃bv,ub = .bool bv:=⟨au[I]'cp,by simpa[qac]using ci⟩
     have bf:qe2 s t.tr k s.es[I].l=false->∀N,Ext X N->KeepsFrom W2.heap.size X N/\Kp Z' X N/\Bt Zc W2 N/\RBs base N (qb4 s t.tr k (qaw s t A k).l) (.slice A1 A.l.length k1)/\RBs base N (qdj s t.tr k (pj++[⟨I,al⟩]) (qb6 s t.tr k (d.take i) (qaw s t A k).e)) (.slice (some ⟨g2,0,none⟩) A.e.length k2):=λhh N h4=>by
      refine⟨qfu h4 _,Ext.kp h4,ax.ext h4,a0.ext qac.good h4,?_⟩;rw[ao,qf0,if_neg (by rw[show s.es[(⟨I,al⟩:Fin s.es.length)]=s.es[I] from rfl,hh];decide)];exact ai.ext qac.good h4
     have aS:qe2 s t.tr k s.es[I].l=true->∀N,Ext X N->KeepsFrom W2.heap.size X (N.setCell ⟨g2,I,none⟩ (.bool true))/\Kp Z' X (N.setCell ⟨g2,I,none⟩ (.bool true))/\Bt Zc W2 (N.setCell ⟨g2,I,none⟩ (.bool true))/\RBs base (N.setCell ⟨g2,I,none⟩ (.bool true)) (qb4 s t.tr k (qaw s t A k).l) (.slice A1 A.l.length k1)/\RBs base (N.setCell ⟨g2,I,none⟩ (.bool true)) (qdj s t.tr k (pj++[⟨I,al⟩]) (qb6 s t.tr k (d.take i) (qaw s t A k).e)) (.slice (some ⟨g2,0,none⟩) A.e.length k2):=λhh N h4=>by
      have da:Zc g2:=by rw[aw];exact .inr rfl
      have bz:Bt Zc X (N.setCell ⟨g2,I,none⟩ (.bool true)):=Bt.set (p:=⟨g2,I,none⟩) h4.bt (.inr da) _;refine⟨qku bz _ λq o hn hz _=>by have:=J.out q hz;omega,bz.kp λq _ hq=>(aK q hq).2,ax.trans bz,?_,?_⟩
      .refine qe6 (a0.ext qac.good h4) (Bt.set (Z:=λq=>q=g2) (p:=⟨g2,I,none⟩) (Bt.refl _ N) (.inr rfl) (.bool true)) λq e e'=>?_
       subst e';exact aH.out.ap q e rfl
      rw[ao,qf0,if_pos (by rw[show s.es[(⟨I,al⟩:Fin s.es.length)]=s.es[I] from rfl,hh])];exact qab.put1 qac.good (ai.ext qac.good h4) he22 I (.bool true) true (by omega) rfl
     have bp:=Hd bf;have bS:=Hd aS;have dN:=Hd he22;have dE:I<A.e.length:=by omega
     have dF:(0:Int)<=(E:Int):=by omega
     have dG:(E:Int)<(s.ls.length:Int):=by omega
     have cH:=Hd a5;have dL:=Hd aZ;clear he22;clear bf aS aP ao ci b1 aO aZ ax a0 ai O L h3 h6 h7 h8 a5 ce bA cj bZ ad c6 bU
     gi_wp2_with fail
     refine wpIn_mono (Q:=Exit.then (λa' w'=>a'={ tmps:=#[.pointer (some ⟨g,0,none⟩),.agg #[.slice A1 A.l.length k1,.slice (some ⟨g2,0,none⟩) A.e.length k2],.agg #[.slice At t.tr.length ct,.slice Am t.mu.length cm],.pointer (some ⟨w.heap.size,0,none⟩),.pointer (some ⟨w.heap.size+1,0,none⟩),.pointer (some ⟨w.heap.size+2,0,none⟩),.pointer (some ⟨bi,0,none⟩),.slice (some ⟨b,V,none⟩) d.length c3,undef,.int .i64 d[i],.int .i64 (I:Int),.pointer (some ⟨Bx,0,none⟩),.pointer (some ⟨X.heap.size,0,none⟩),undef,undef,.pointer (some ⟨g,0,none⟩),.pointer (some ⟨w.heap.size+2,0,none⟩),.slice At t.tr.length ct,.func (.func 220) #[] #[.pointer (some ⟨w.heap.size+3,0,none⟩),.pointer (some ⟨w.heap.size+4,0,none⟩)],.int .i64 (k:Int),.slice (some ⟨b,V,none⟩) d.length c3,.slice (some ⟨b,V,none⟩) d.length c3,.int .i64 (d.length:Int),.bool false,.int .i64 (k:Int),.bool true,.pointer (some ⟨g,0,none⟩),.agg #[.slice A1 A.l.length k1,.slice (some ⟨g2,0,none⟩) A.e.length k2],.pointer (some ⟨w.heap.size+2,0,none⟩),.slice At t.tr.length ct,.int .i64 (k:Int),.int .i64 (q:Int),.pointer (some ⟨bt,ot+q*2,none⟩),.agg #[.int .i64 t.tr[q].g,.slice Ax t.tr[q].v.length cx],.tuple #[],.slice (some ⟨b,V,none⟩) d.length c3,.int .i64 (d.length:Int),.int .i64 (i:Int),.bool true,.pointer (some ⟨b,V+i,none⟩),.int .i64 d[i],.pointer (some ⟨g,0,none⟩),.int .i64 d[i],.func (.func 234) #[] #[.pointer (some ⟨wr.heap.size,0,none⟩),.pointer (some ⟨wr.heap.size+1,0,none⟩)],.int .i64 (I:Int),.agg #[.int .i64 s.es[I].f,.int .i64 s.es[I].l,.int .i64 s.es[I].t],.pointer (some ⟨g,0,none⟩),.pointer (some ⟨g,0,none⟩),.pointer (some ⟨g,0,none⟩),.pointer (some ⟨g,1,none⟩),.slice (some ⟨bl,ol,none⟩) s.ls.length cl,.pointer (some ⟨Bx,1,none⟩),.int .i64 (E:Int),.pointer (some ⟨bl,ol+E*2,none⟩),.agg #[.int .i64 s.ls[E].g,.slice Al s.ls[E].v.length M],u55,u56,u57,u58,u59,u60,u61,u62,u63,u64,u65,u66,u67,u68,u69,u70,u71,u72,u73,u74,u75,u76,u77,u78,u79,u80,u81,u82,u83,undef,undef,undef,undef,undef,undef,undef,undef,undef,undef,undef,undef,undef,undef,undef,undef,undef],defers:=[] }/\w'=(X.alloc (.cells #[.int .i64 s.ls[E].g,.slice Al s.ls[E].v.length M] 61)).drew) (λ_ _ _=>False)) ?reg13 ?aft13
     case reg13 =>
      refine qps (l:=l3) (λY=>Y.cell? ⟨w.heap.size,0,none⟩=some (.pointer (some ⟨g,0,none⟩))/\Y.cell? ⟨g,1,none⟩=some (.slice (some ⟨bl,ol,none⟩) s.ls.length cl)/\Y.cell? ⟨Bx,1,none⟩=some (.int .i64 (E:Int))/\Y.cell? ⟨bl,ol+E*2,none⟩=some (.int .i64 s.ls[E].g)/\Y.cell? ⟨bl,ol+E*2+1,none⟩=some (.slice Al s.ls[E].v.length M)) (by kernel_rfl) (by kernel_rfl) (by rintro⟨_,_,h⟩;exact h) ⟨y0,g1,e1,gl,aV⟩ (λhHeld=>?_)
      (refine tk 0 ?_;try simp only[qae])
      (refine tk 1 ?_;try simp only[qae])
      (refine tk 2 ?_;try simp only[qae])
      (refine tk 3 ?_;try simp only[qae])
      (refine tk 4 ?_;try simp only[qae])
      (refine tk 5 ?_;try simp only[qae])
      (refine tk 6 ?_;try simp only[qae])
      (refine tk 7 ?_;try simp only[qae])
      (refine tk 8 ?_;try simp only[qae])
      refine wpAnyH_ready (rs:=[9]) (by kernel_rfl) (by simp) ?_;refine AllReadyH.cons rfl (λK hK=>?_) AllReadyH.nil;go_simp;have an:Ext X (X.alloc (.cells #[.int .i64 0,.slice none 0 0] 61)).drew:=Below.drew ((Ext.refl X).alloc _);refine hK.out _ _ ⟨Ext.keep an y0,Ext.keep an g1,Ext.keep an e1,Ext.keep an gl,Ext.keep an aV⟩ (λcw=>?_);refine wpAnyH_ready (rs:=[10]) (by kernel_rfl) (by simp) ?_;refine AllReadyH.cons rfl (λK2 cS=>?_) AllReadyH.nil;go_simp;have F:Ext X (X.alloc (.cells #[.int .i64 s.ls[E].g,.slice Al s.ls[E].v.length M] 61)).drew:=Below.drew ((Ext.refl X).alloc _);refine cS.out _ _ ⟨Ext.keep F y0,Ext.keep F g1,Ext.keep F e1,Ext.keep F gl,Ext.keep F aV⟩ (λcy=>?_);refine wpAnyH_done (by kernel_rfl) ?_ _;exact⟨rfl,rfl⟩
     case aft13 =>
      rintro e a4 W4 h
      cases e with
      | normal =>
       obtain⟨rfl,rfl⟩:=h;have F:Ext X (X.alloc (.cells #[.int .i64 s.ls[E].g,.slice Al s.ls[E].v.length M] 61)).drew:=Below.drew ((Ext.refl X).alloc _);have z0:(X.alloc (.cells #[.int .i64 s.ls[E].g,.slice Al s.ls[E].v.length M] 61)).drew.cell? ⟨X.heap.size,0,none⟩=some (.int .i64 s.ls[E].g):=by go_simp
       have z1:(X.alloc (.cells #[.int .i64 s.ls[E].g,.slice Al s.ls[E].v.length M] 61)).drew.cell? ⟨X.heap.size,1,none⟩=some (.slice Al s.ls[E].v.length M):=by go_simp
       obtain⟨Xa,bW⟩:=nm ((X.alloc (.cells #[.int .i64 s.ls[E].g,.slice Al s.ls[E].v.length M] 61)).drew);rw[bW]at F z0 z1 ⊢;clear bW g1 gl aV e1;have y0:=Ext.keep F y0;have aC:=Ext.keep F aC;have a7:=Ext.keep F a7;have yb:=Ext.keep F yb;have ag:=λY=>qj0 s.ls[E].g (.slice Al s.ls[E].v.length M) (qam Xa Y)
       by_cases az:s.ls[E].g = -1
       .have cV:(s.ls[E].g == -1)=true:=beq_iff_eq.2 az;have aq:=Hd az;clear az ag
        gi_wp2_with fail
        (refine qds (by kernel_rfl) (by kernel_rfl) (by kernel_rfl) ?_;(repeat (first | go_big_quiet_step ((fail)) | quiet_step ((fail))));refine wpQuiet_nil ?_)
        intro N U;have ak:=F.trans' U;have aC:=Ext.keep U aC;have cP:=Ext.keep ak gc;have cQ:=qdy ak (World.block_lt_of_cell? X _ gc) gf
        gi_wp2
        exact bS.out (by rw[aF.out];rw[decide_eq_true aq.out];rfl) N ak
       have cV:(s.ls[E].g == -1)=false:=beq_eq_false_iff_ne.2 az;have aq:=Hd az;clear az
       by_cases aj:k<t.tr.length
       case neg =>
        have b7:decide ((k:Int)<(t.tr.length:Int))=false:=decide_eq_false (by omega)
        gi_wp2_with fail
        (refine qds (by kernel_rfl) (by kernel_rfl) (by kernel_rfl) ?_;(repeat (first | go_big_quiet_step ((fail)) | quiet_step ((fail))));refine wpQuiet_nil ?_)
        intro N U
        gi_wp2
        exact bp.out (by rw[aF.out];rw[decide_eq_false aq.out,List.getElem?_eq_none (by omega)];rfl) N (F.trans' U)
       have b7:decide ((k:Int)<(t.tr.length:Int))=true:=decide_eq_true (by omega);have ah:=Hd (List.getElem?_eq_getElem aj)
       by_cases aB:qat s.ls[E].g=true
       case neg =>
        have hv:∀Y,Calls Tryz.prog 176 #[.agg #[.int .i64 s.ls[E].g,.slice Al s.ls[E].v.length M]] (qam Xa Y) λe w'=>e = .returned (.bool false)/\Ext (qam Xa Y) w':=λY=>by have:=ag Y;rwa [eq_false_of_ne_true aB]at this
        have aU:=Hd (eq_false_of_ne_true aB);clear ag aB
        gi_wp2_with fail
        (refine qds (by kernel_rfl) (by kernel_rfl) (by kernel_rfl) ?_;(repeat (first | go_big_quiet_step ((go_at_call 176;exact qbh (hv _))) | quiet_step ((go_at_call 176;exact qbh (hv _)))));refine wpQuiet_nil ?_)
        intro N U
        gi_wp2
        exact bp.out (by rw[aF.out];rw[decide_eq_false aq.out,ah.out];simp only[aU.out];rfl) N (F.trans' U)
       have hv:∀Y,Calls Tryz.prog 176 #[.agg #[.int .i64 s.ls[E].g,.slice Al s.ls[E].v.length M]] (qam Xa Y) λe w'=>e = .returned (.bool true)/\Ext (qam Xa Y) w':=λY=>by have:=ag Y;rwa [aB]at this
       have aU:=Hd aB;clear ag aB;have bV:=qaa.good.bel cJ.out F;obtain⟨bq,oq,cq,hA,dY,_,c8,bF,bB⟩:=bV.get k aj;obtain rfl:=hA;obtain⟨_,vq,rfl,ck⟩:=id bF;obtain⟨Aq,dT,rfl,_,_⟩:=ck.val;have t0:=bB.get 0 _;have t1:=bB.get 1 _;simp only[Nat.add_zero]at t0;have am:=λY=>qi2 _ s.ls[E] t.tr[k] _ _ (qam Xa Y) (RLb.good.bel cH.out (F.trans' (qa7 Xa Y))) (RLb.good.bel bF (qa7 Xa Y))
       clear bV c8 bF bB ck
       by_cases ay:qak s.ls[E] t.tr[k]=0
       case neg =>
        have cW:(qak s.ls[E] t.tr[k] == 0)=false:=beq_eq_false_iff_ne.2 ay;have bn:=Hd ay;clear ay
        gi_wp2_with fail
        (refine qds (by kernel_rfl) (by kernel_rfl) (by kernel_rfl) ?_;(repeat (first | go_big_quiet_step ((first | (go_at_call 176;exact qbh (hv _)) | (go_at_call 166;exact qaq (am _)))) | quiet_step ((first | (go_at_call 176;exact qbh (hv _)) | (go_at_call 166;exact qaq (am _))))));refine wpQuiet_nil ?_)
        intro N U
        gi_wp2
        exact bp.out (by rw[aF.out];rw[decide_eq_false aq.out,ah.out];simp only[aU.out,decide_eq_false bn.out];rfl) N (F.trans' U)
       have cW:(qak s.ls[E] t.tr[k] == 0)=true:=beq_iff_eq.2 ay;have bn:=Hd ay;clear ay
       gi_wp2_with fail
       (refine qds (by kernel_rfl) (by kernel_rfl) (by kernel_rfl) ?_;(repeat (first | go_big_quiet_step ((first | (go_at_call 176;exact qbh (hv _)) | (go_at_call 166;exact qaq (am _)))) | quiet_step ((first | (go_at_call 176;exact qbh (hv _)) | (go_at_call 166;exact qaq (am _))))));refine wpQuiet_nil ?_)
       intro N U;have ak:=F.trans' U;have aC:=Ext.keep U aC;have cP:=Ext.keep ak gc;have cQ:=qdy ak (World.block_lt_of_cell? X _ gc) gf
       gi_wp2
       exact bS.out (by rw[aF.out];rw[decide_eq_false aq.out,ah.out];simp only[aU.out,decide_eq_true bn.out];rfl) N ak
      | _=>exact h.elim
    case doneI =>
     rintro ys X rfl ⟨O,L,h3⟩;have cK:=Hd O;have cL:=Hd L;have bR:=Hd h3;clear O L h3
     gi_wp2_with fail
     go_roundw
     case rel =>
      refine⟨i+1,by omega,by go_num,aL.trans cK.out,cL.out,?_⟩;rw[List.take_succ_eq_append_getElem cb,qvf];exact bR.out
     simp[intOf];omega
    case stopI =>
     rintro c pj X _ h _;exact h.elim
   obtain rfl:i=d.length:=by omega
   rw[List.take_length]at aN;have a7:=ab.cell bM (G.out _ a6).2;have db:=ab.cell dH (G.out _ a6).2;have yb:=ab.cell xb (λhz=>by have h5:=J.out bi hz;omega);have af:=Hd ab;have aG:=Hd a1;have aE:=Hd aN;clear ab a1 aN
   by_cases aj:k=t.tr.length
   case neg =>
    have c4:((k:Int) == (t.tr.length:Int))=false:=beq_eq_false_iff_ne.2 (by omega);have ah:=Hd aj;clear aj
    gi_wp2_with fail
    exact bG.out _ af.out (by rw[qgm,if_neg ah.out];exact aG.out) aE.out _
   have c4:((k:Int) == (t.tr.length:Int))=true:=beq_iff_eq.2 (by omega);have ah:=Hd aj;clear aj
   gi_wp2_with fail
   obtain⟨wb,cn⟩:=nm (wr);rw[cn]at af aG aE a7 db yb a9 ⊢;clear cn
   gi_loopw [92] (λvi wr=>∃jm:Nat,jm<=t.mu.length/\vi = .int .i64 jm/\Bt Zc W wr/\RBs base wr (qfx s (t.mu.take jm) (qb4 s t.tr k (qaw s t A k).l)) (.slice A1 A.l.length k1)/\RBs base wr (qb6 s t.tr k d (qaw s t A k).e) (.slice A2 A.e.length k2)) (λvi _=>t.mu.length-(intOf vi).toNat)
   case atStart=>exact⟨0,Nat.zero_le _,rfl,af.out,by rw[List.take_zero];exact aG.out,aE.out⟩
   obtain⟨jm,d0,rfl,aa,aA,aY⟩:=hrel
   by_cases be:jm<t.mu.length
   .have b5:Kp Z W wr:=aa.kp λq _ hq=>(G.out q hq).2
    obtain⟨bm,om,dR,cR,ds,_,b9,aR,aM⟩:=(qaa.good.move dd.out b5).get jm be;obtain rfl:=cR;obtain⟨_,ed,rfl,bg⟩:=id aR;obtain⟨Ax6,cO,rfl,_,_⟩:=bg.val;have m0:=aM.get 0 _;have m1:=aM.get 1 _;simp only[Nat.add_zero]at m0;have z0:=aa.cell x0 (G.out _ bh).2;have ee:=aa.cell cB (G.out _ aT).2;have ef:=aa.cell bL (G.out _ aT).2;have aQ:(qfx s (t.mu.take jm) (qb4 s t.tr k (qaw s t A k).l)).length=s.ls.length:=by rw[qn1,qln];exact bQ.out.1
    have a2:=λX (hX:Ext wr X)=>mark_c Z s g t.mu[jm] (qfx s (t.mu.take jm) (qb4 s t.tr k (qaw s t A k).l)) base _ (.slice A2 A.e.length k2) _ X ((bu.out.move b5).bel hX) (RLb.good.bel aR hX) (aA.ext qac.good hX) ⟨_,_,_,rfl⟩ aQ (by have:=bD.2.2.1;omega)
    have d7:=aa.size;have d5:w.heap.size<wr.heap.size:=by omega
    have dy:w.heap.size+1<wr.heap.size:=by omega
    have bj:=Hd aa;have bo:=Hd aY;have bP:=Hd aA;clear aa aA aY aR aM bg b9 aQ
    gi_wp2_with fail
    refine⟨trivial,?_⟩
    gi_at_call 174
    refine(CallsIn.inRound l2 (callsIn_wide.2 (a2 _ bel))).mono ?_;rintro e w7 ⟨rfl,cc,bx⟩;have co:Ext wr (wr.alloc (.cells #[.int .i64 t.mu[jm].g,.slice Ax6 t.mu[jm].v.length cO] 61)):=(Ext.refl wr).alloc _;have ba:Bt Zc W w7:=(bj.out.ext co).trans (bx.mono λq _ e=>by rw[aw];exact .inl e);have bY:RBs base w7 (qb6 s t.tr k d (qaw s t A k).e) (.slice A2 A.e.length k2):=qe6 (bo.out.ext qac.good co) bx λq e e'=>aH.out.ap q e' e
    have cD:=Hd ba;have cE:=Hd bY;have cG:=Hd cc;clear bx ba bY cc a2
    gi_wp2_with fail
    go_roundw
    case rel =>
     refine⟨jm+1,by omega,by go_num,cD.out,?_,cE.out⟩;rw[List.take_succ_eq_append_getElem be,qs2];exact cG.out
    simp[intOf];omega
   obtain rfl:jm=t.mu.length:=by omega
   rw[List.take_length]at aA;have bj:=Hd aa;have bo:=Hd aY;have bP:=Hd aA;clear aa aA aY
   gi_wp2_with fail
   exact bG.out _ bj.out (by rw[qgm,if_pos ah.out];exact bP.out) bo.out _
  | _=>exact h.elim
 case done =>
  rintro D ys W hD ea ⟨h0,O,L,h3⟩ bT;rw[ea]at L h3;have hf:qaw s t A (t.tr.length+1)=qa9 s t A:=by rw[<- h3.out,show t.tr.length+1-(t.tr.length+1)=0 from by omega,qfj]
  rw[hf]at L;have HD:=Hd bT;have cF:=Hd L;have bN:=Hd O;clear bT L O h3 hf
  gi_wp2
  have hM:Marks W0.heap.size [{ target:=.collected D,args:=#[] }] W:=(Marks.nil W0.heap.size W0).cons hD (by omega) HD.out (λr O L=>(bN.out.block r O (λhz=>by
   rw[aw]at hz
   rcases hz with e | e
   .exact br.out.l.not_def L e
   exact br.out.e.not_def L e)).trans L)
  refine Marks.leave (by simp) hM λw3 ae=>?_
  refine⟨_,results_none rfl _ _ _,rfl,cF.out.keep ae λq hq e=>?_,?_⟩
  .have:=J.out q (by rw[aw];exact hq);have:=e.1;omega
  rw[<- aw];exact(bI.bt.trans bN.out).tail ae λi hi=>by have:=hi.1;omega
 rintro D c pre W hD _ ⟨rfl,O,L⟩ bT;have HD:=Hd bT;have cF:=Hd L;have bN:=Hd O;clear bT L O
 gi_wp2
 have hM:Marks W0.heap.size [{ target:=.collected D,args:=#[] }] W:=(Marks.nil W0.heap.size W0).cons hD (by omega) HD.out (λr O L=>(bN.out.block r O (λhz=>by
  rw[aw]at hz
  rcases hz with e | e
  .exact br.out.l.not_def L e
  exact br.out.e.not_def L e)).trans L)
 refine Marks.leave (by simp) hM λw3 ae=>?_
 refine⟨_,results_none rfl _ _ _,rfl,cF.out.keep ae λq hq e=>?_,?_⟩
 .have:=J.out q (by rw[aw];exact hq);have:=e.1;omega
 rw[<- aw];exact(bI.bt.trans bN.out).tail ae λi hi=>by have:=hi.1;omega
end
section
open Go.Shelf
def cv0 (s:Sy):Cv:=⟨List.replicate s.ls.length false,List.replicate s.es.length false⟩
def qd4 (s:Sy) (ts:List Te):Cv:=ts.foldl (λc t=>qa9 s t c) (cv0 s)
open Classical in
noncomputable def qec (s:Sy) (ts:List Te):Cv:=if qal s ts=0 then qd4 s ts else ⟨[],[]⟩
theorem qqn (s:Sy):∀(ts:List Te) (c:Cv),(ts.foldl (λc t=>qa9 s t c) c).l.length=c.l.length/\(ts.foldl (λc t=>qa9 s t c) c).e.length=c.e.length
 | [],_=>⟨rfl,rfl⟩
 | t :: ts,c=>by
  have d:=qqn s ts (qa9 s t c);have m:=qmi s t c;exact⟨d.1.trans m.1,d.2.trans m.2⟩
def CvPost (c:Cv) (err:Int) (w:World) (e:Ending) (w':World):Prop:=∃v1 v2,e = .returned (.tuple #[v1,v2,.int .i64 err])/\RBs w.heap.size w' c.l v1/\RBs w.heap.size w' c.e v2/\Ext w w'
theorem qvx (S:Nat->Prop) (s:Sy) (cs:List Value) (ts:List Te) (v:Value) (w:World) (hx:RSy S w s cs) (ht:RSl RTe 2 S w ts [v]) :
  Calls Tryz.prog 48 #[.agg cs.toArray,v] w (CvPost (qec s ts) (qal s ts) w):=by
 have D:=λW (hW:Ext w W)=>qlx S s cs ts v W (RSy.good.bel hx hW) ((RSl.good RTe.good).bel ht hW)
 obtain⟨_,vl,ve,rfl,ay,ax⟩:=id hx;obtain⟨Al,cl,rfl,_,_⟩:=ay.val;obtain⟨Ae,ce,rfl,_,_⟩:=ax.val;obtain⟨A,c,rfl,hc,aN⟩:=ht.val;have HT:=Hd ht;clear hx ht ay ax
 by_cases d:qal s ts=0
 case neg =>
  have hv:qec s ts=⟨[],[]⟩:=if_neg d;rw[hv];obtain⟨er,ao⟩:=nm (qal s ts);rw[ao]at D d ⊢;have aM:(er == 0)=false:=beq_eq_false_iff_ne.2 d;clear ao hv
  go_enter Tryz.func48,Tryz.ntmps48
  go_wp2_with fail
  refine(D _ bel).mono ?_;rintro e u ⟨_,h1⟩;obtain⟨rfl,ah⟩:=h1 d;have L:Ext w u:=bel;clear h1 ah
  go_wp2_with fail
  go_ret3;exact⟨.slice none 0 0,.slice none 0 0,rfl,qab.nil ..,qab.nil ..,L⟩
 have hv:qec s ts=qd4 s ts:=if_pos d;have ag:=(qdh d).1;have hn:∀t∈ts,NTe t:=λt h=>NTe.of_test ((qdh d).2.2 t h)
 rw[hv,d];rw[d]at D;clear d hv;have ap:=λW g (hg:qaz (λ_=>True) W g s)=>qsk (λ_=>True) s g W hg (by have:=ag.2.2.1;omega) (by have:=ag.2.2.2.1;omega)
 go_enter Tryz.func48,Tryz.ntmps48
 go_wp2_with fail
 refine(D _ bel).mono ?_;rintro e u ⟨h1,_⟩;obtain⟨g,rfl,ah,hg,hS⟩:=h1 rfl;have L:Ext w u:=bel;have HS:=Hd (hS.mono (S':=λk=>k<u.heap.size) λk h _=>h);clear h1 ah hg hS D
 go_wp2_with fail
 refine(ap _ g (HS.out.mono λ_ _ _=>trivial)).mono ?_;rintro e G ⟨v1,v2,rfl,N,O,am,h2⟩;obtain⟨U,Y,rfl,_,_⟩:=(N.sl qac.good (by decide)).val;obtain⟨V,k2,rfl,_,_⟩:=(O.sl qac.good (by decide)).val;have aa:RCv u.heap.size G (cv0 s) (.slice U (List.replicate s.ls.length false).length Y) (.slice V (List.replicate s.es.length false).length k2):=⟨N,O,am⟩
 have ab:∀q,ZCv (.slice U (List.replicate s.ls.length false).length Y) (.slice V (List.replicate s.es.length false).length k2) q->u.heap.size<=q/\q<G.heap.size:=λq h=>by
  rcases h with h | h
  .exact qg1 N h
  exact qg1 O h
 simp only[List.length_replicate]at aa ab ⊢;have az:=Hd aa;have ak:=Hd ab;have J:=Hd L;have aC:=Hd h2;have aL:=h2.size;clear N O am aa ab h2 ap;have aB:=Hd ((RSl.good RTe.good).mono HT.out (S':=λk=>k<u.heap.size) λb hb _=>by have:=L.size;omega)
 go_wp2_with fail
 obtain⟨Wb,m⟩:=nm (G.alloc (.cells #[.slice U s.ls.length Y,.slice V s.es.length k2] 145));have al:Ext G Wb:=by rw[<- m];exact(Ext.refl _).alloc _
 have aF:Wb.cell? ⟨G.heap.size,0,none⟩=some (.slice U s.ls.length Y):=by subst m;go_simp
 have aG:Wb.cell? ⟨G.heap.size,1,none⟩=some (.slice V s.es.length k2):=by subst m;go_simp
 have aH:G.heap.size<Wb.heap.size:=by rw[<- m];simp
 rw[m];clear m
 go_loopw [25] (λvi wr=>∃k:Nat,k<=ts.length/\vi = .int .i64 k/\RCv u.heap.size wr ((ts.take k).foldl (λc t=>qa9 s t c) (cv0 s)) (.slice U s.ls.length Y) (.slice V s.es.length k2)/\wr.cell? ⟨G.heap.size,0,none⟩=some (.slice U s.ls.length Y)/\wr.cell? ⟨G.heap.size,1,none⟩=some (.slice V s.es.length k2)/\Hid (Ext u wr)/\G.heap.size<wr.heap.size) (λvi _=>ts.length-(intOf vi).toNat)
 case atStart=>exact⟨0,Nat.zero_le _,rfl,az.out.ext al,aF,aG,aC.out.trans' al,aH⟩
 obtain⟨k,hk,rfl,aw,q0,q1,d,aO⟩:=hrel;have I:=Hd aw;clear aw
 by_cases af:k<ts.length
 .obtain ⟨b,aP,cs,rfl,hb,aE,hl,hr,F⟩:=((RSl.good RTe.good).bel aB.out (J.out.trans' d.out)).get k af;obtain⟨v0,v1,rfl,ac,ad⟩:=id hr;obtain⟨a0,a1⟩:=g2 F;have au:=hn _ (List.getElem_mem af);have ae:=qqn s (ts.take k) (cv0 s);have an:=λX (hX:Ext wr X)=>qtg (λk=>k<u.heap.size) s ag g ts[k] ((ts.take k).foldl (λc t=>qa9 s t c) (cv0 s)) u.heap.size _ _ v0 v1 X (HS.out.bel (d.out.trans' hX)) (I.out.ext hX) (λ_ h=>h) (qaa.good.bel ac hX) (qaa.good.bel ad hX) (by rw[ae.1];simp[cv0]) (by rw[ae.2];simp[cv0]) au.1 au.2
  obtain⟨B0,d0,rfl,_,_⟩:=ac.val;obtain⟨B1,d1,rfl,_,_⟩:=ad.val;clear ac ad hr hl F aE ae
  go_wp2_with fail
  refine(an _ bel).mono ?_;rintro e w5 ⟨rfl,av,E⟩;have ai:Ext wr (wr.alloc (.cells #[.slice B0 ts[k].tr.length d0,.slice B1 ts[k].mu.length d1] 40)):=(Ext.refl wr).alloc _;have aq:¬ ZCv (.slice U s.ls.length Y) (.slice V s.es.length k2) G.heap.size:=λh=>by have:=ak.out _ h;omega
  have aJ:=E.cell (Ext.keep ai q0) aq;have aK:=E.cell (Ext.keep ai q1) aq;have M:Ext u w5:=Bt.new (d.out.trans' ai) E λi _ h=>(ak.out i h).1
  have aI:=E.size;have aA:=Hd av;have aD:=Hd M;clear av E M q0 q1 an
  go_wp2_with fail
  go_roundw
  case rel =>
   refine⟨k+1,by omega,by go_num,?_,aJ,aK,aD.out,by simp at aI;omega⟩;rw[List.take_succ_eq_append_getElem af,List.foldl_append];exact aA.out
  simp[intOf];omega
 obtain rfl:k=ts.length:=by omega
 rw[List.take_length]at I
 go_wp2_with fail
 (refine qap ?_;(repeat (first | go_big_quiet_step ((fail)) | quiet_step ((fail))));refine wpQuiet_nil ?_)
 intro w5 aj;have M:Ext w w5:=J.out.trans' (d.out.trans' aj)
 go_wp2_with fail
 go_ret3;refine⟨.slice U s.ls.length Y,.slice V s.es.length k2,rfl,?_,?_,M⟩
 .exact (I.out.l.ext qac.good aj).base J.out.size
 exact(I.out.e.ext qac.good aj).base J.out.size
end
end Go.Proofs.YtegenalcheooeaaGreat
