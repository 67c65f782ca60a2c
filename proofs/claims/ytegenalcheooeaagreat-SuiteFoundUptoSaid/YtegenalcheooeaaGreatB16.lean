/- Of the proof of a law of the suites: Covers. -/
import Derived.Test.YtegenalcheooeaaGreatB15
set_option linter.unusedSectionVars false
set_option linter.unusedSimpArgs false
set_option linter.unusedVariables false
namespace Go.Proofs.YtegenalcheooeaaGreat
open Go.RowKit
attribute [local go_sem] cell?_exto
section
open Go.Shelf
attribute [local go_sem] Oper.semAt_some
set_option maxHeartbeats 4000000 in
set_option maxRecDepth 100000 in
theorem qsf (S:Nat->Prop) (s:Sy) (hok:qag s) (g:Nat) (t:Te) (c0:Cv) (base:Nat) (v1 v2 v u:Value) (w:World) (hS:qav S w g s) (hr:RCv base w c0 v1 v2) (hav:∀ q,S q->q<base) (ht:qaa S w t.tr [v]) (hm:qaa S w t.mu [u])
  (hl1:c0.l.length=s.ls.length) (hl2:c0.e.length=s.es.length) (htr:t.tr.length<=4611686018427387903) (hmu:t.mu.length<=4611686018427387903) :
  Calls Tryz.prog 113 #[.pointer (some ⟨g,0,none⟩),.agg #[v1,v2],.agg #[v,u]] w fun e w'=>e = .returned (.tuple #[])∧RCv base w' (qd8 s t c0) v1 v2∧Bt (ZCv v1 v2) w w':=by
 have HS:=Hd hS
 have HT:=Hd ht
 have HM:=Hd hm
 have HR:=Hd hr
 have HL:=Hd (And.intro hl1 hl2)
 obtain ⟨At,ct,rfl,hct,hct0⟩:=ht.val
 obtain ⟨Am,cm,rfl,_,_⟩:=hm.val
 obtain ⟨A1,k1,rfl,_,_⟩:=(hr.l.sl qae.good (by decide)).val
 obtain ⟨A2,k2,rfl,_,_⟩:=(hr.e.sl qae.good (by decide)).val
 have hcs:=fun bs (h:bs=c0.l.length)=>h
 clear hS ht hm hr hl1 hl2 hcs
 refine (callsIn_wide (n:=5)).1 ?_
 refine callsIn_of_wp_marks Tryz.func113 rfl trivial ?_ rfl
 simp only [Tryz.ntmps113,List.size_toArray,List.length_cons,List.length_nil,Nat.reduceAdd,Nat.reduceSub,Array.replicate_succ,Array.replicate_zero,List.push_toArray,List.append_toArray,List.nil_append,List.cons_append]
 gi_wp2_with fail
 refine ⟨trivial,?_⟩
 gi_at_call 150
 refine (qnc 4 (some ⟨g,0,none⟩) At t.tr.length ct _).mono ?_
 rintro e w1 ⟨rfl,rfl⟩
 gi_wp2_with fail
 obtain ⟨W0,hW0⟩:∃ W0,((((w.alloc (.cells #[.pointer (some ⟨g,0,none⟩)] 111)).alloc (.cells #[.slice A1 c0.l.length k1,.slice A2 c0.e.length k2] 145)).alloc (.cells #[.slice At t.tr.length ct,.slice Am t.mu.length cm] 40)).alloc (.cells #[.pointer (some ⟨g,0,none⟩)] 111)).alloc (.cells #[.slice At t.tr.length ct] 22)=W0:=⟨_,rfl⟩
 have hsz0:W0.heap.size=w.heap.size+5:=by rw [<- hW0];simp
 have hX0:Ext w W0:=by rw [<- hW0];exact (((((Ext.refl w).alloc _).alloc _).alloc _).alloc _).alloc _
 have b0:W0.cell? ⟨w.heap.size,0,none⟩=some (.pointer (some ⟨g,0,none⟩)):=by
  subst hW0
  go_simp
 have b10:W0.cell? ⟨w.heap.size+1,0,none⟩=some (.slice A1 c0.l.length k1):=by
  subst hW0
  go_simp
 have b11:W0.cell? ⟨w.heap.size+1,1,none⟩=some (.slice A2 c0.e.length k2):=by
  subst hW0
  go_simp
 have b20:W0.cell? ⟨w.heap.size+2,0,none⟩=some (.slice At t.tr.length ct):=by
  subst hW0
  go_simp
 have b21:W0.cell? ⟨w.heap.size+2,1,none⟩=some (.slice Am t.mu.length cm):=by
  subst hW0
  go_simp
 have b3:W0.cell? ⟨w.heap.size+3,0,none⟩=some (.pointer (some ⟨g,0,none⟩)):=by
  subst hW0
  go_simp
 have b4:W0.cell? ⟨w.heap.size+4,0,none⟩=some (.slice At t.tr.length ct):=by
  subst hW0
  go_simp
 rw [hW0]
 clear hW0
 obtain ⟨Zc,hZc⟩:∃ Zc:Nat->Prop,Zc=ZCv (.slice A1 c0.l.length k1) (.slice A2 c0.e.length k2):=⟨_,rfl⟩
 have hZlt:∀ q,Zc q->base<=q∧q<w.heap.size:=fun q hq=>by
  rw [hZc] at hq
  rcases hq with h | h
  ·exact qft HR.out.l h
  ·exact qft HR.out.e h
 obtain ⟨Z,hZ⟩:∃ Z:Nat->Prop,Z=fun q=>(S q∧q<w.heap.size)∨(w.heap.size<=q∧q<w.heap.size+5):=⟨_,rfl⟩
 have hZd:∀ q,Z q->q<W0.heap.size∧¬ Zc q:=fun q hq=>by
  rw [hZ] at hq
  refine ⟨?_,fun hz=>?_⟩
  ·rcases hq with ⟨_,h⟩ | ⟨_,h⟩ <;> omega
  ·have h1:=hZlt q hz
   rcases hq with ⟨h,_⟩ | ⟨h,_⟩
   ·have:=hav q h;omega
   ·omega
 have hS0:qav Z W0 g s:=(HS.out.mono (S':=Z) fun q h1 h2=>by rw [hZ];exact .inl ⟨h2,h1⟩).bel hX0
 have hT0:qaa Z W0 t.tr [.slice At t.tr.length ct]:=qaa.good.bel (qaa.good.mono HT.out (S':=Z) fun q h1 h2=>by rw [hZ];exact .inl ⟨h2,h1⟩) hX0
 have hM0:qaa Z W0 t.mu [.slice Am t.mu.length cm]:=qaa.good.bel (qaa.good.mono HM.out (S':=Z) fun q h1 h2=>by rw [hZ];exact .inl ⟨h2,h1⟩) hX0
 have hR0:RCv base W0 c0 (.slice A1 c0.l.length k1) (.slice A2 c0.e.length k2):=HR.out.ext hX0
 have HS0:=Hd hS0
 have HT0:=Hd hT0
 have HM0:=Hd hM0
 have HR0:=Hd hR0
 have HZD:=Hd hZd
 have HB:=Hd (And.intro b0 (And.intro b10 (And.intro b11 (And.intro b20 b21))))
 have HB3:=Hd b3
 have HB4:=Hd b4
 have hz0:Z w.heap.size:=by rw [hZ];exact .inr ⟨by omega,by omega⟩
 have hz1:Z (w.heap.size+1):=by rw [hZ];exact .inr ⟨by omega,by omega⟩
 have hz2:Z (w.heap.size+2):=by rw [hZ];exact .inr ⟨by omega,by omega⟩
 have hz3:Z (w.heap.size+3):=by rw [hZ];exact .inr ⟨by omega,by omega⟩
 have hz4:Z (w.heap.size+4):=by rw [hZ];exact .inr ⟨by omega,by omega⟩
 have hZlt0:=Hd hZlt
 clear b0 b10 b11 b20 b21 b3 b4 hS0 hT0 hM0 hR0 hZd hav hZ hZlt
 refine qmn (by omega) (gf:=220) (lb:=#[.pointer (some ⟨w.heap.size+3,0,none⟩),.pointer (some ⟨w.heap.size+4,0,none⟩)]) rfl (enters_of Tryz.func220 (by kernel_rfl) rfl)
  (ql6 (5-1) (by omega) Zc Z s hok g t.tr _ (w.heap.size+3) (w.heap.size+4) W0 HZD.out (fun k hk=>by have:=hZlt0.out k hk;omega) HS0.out HT0.out hz3 hz4 HB3.out HB4.out htr)
  (fun _=>rfl) kc_t (fun W l o o' h1 h2 h3=>kc_b W l o o' h1 h2 h3)
  (fun pre W=>pre.length<=t.tr.length+1∧Bt Zc W0 W∧RCv base W (qas s t c0 pre.length) (.slice A1 c0.l.length k1) (.slice A2 c0.e.length k2)∧Hid (cvGo s t (t.tr.length+1-pre.length) pre.length (qas s t c0 pre.length)=qd8 s t c0))
  (fun c _ W=>c = .ret∧Bt Zc W0 W∧RCv base W (qd8 s t c0) (.slice A1 c0.l.length k1) (.slice A2 c0.e.length k2)) ?own ?ownx
  ⟨Nat.zero_le _,Bt.refl _ _,HR0.out,rfl⟩
  (fun pre x a' W=>walkG s t.tr W0.heap.size pre x W∧∃ bi,W0.heap.size<=bi∧Boxed W bi 3 (.int .i64 (x.1:Int))∧a'={ tmps:=#[.pointer (some ⟨g,0,none⟩),.agg #[.slice A1 c0.l.length k1,.slice A2 c0.e.length k2],.agg #[.slice At t.tr.length ct,.slice Am t.mu.length cm],.pointer (some ⟨w.heap.size,0,none⟩),.pointer (some ⟨w.heap.size+1,0,none⟩),.pointer (some ⟨w.heap.size+2,0,none⟩),.pointer (some ⟨bi,0,none⟩),x.2,undef,undef,undef,undef,undef,undef,undef,.pointer (some ⟨g,0,none⟩),.pointer (some ⟨w.heap.size+2,0,none⟩),.slice At t.tr.length ct,.func (.func 220) #[] #[.pointer (some ⟨w.heap.size+3,0,none⟩),.pointer (some ⟨w.heap.size+4,0,none⟩)],.int .i64 (x.1:Int),x.2,undef,undef,undef,undef,undef,undef,undef,undef,undef,undef,undef,undef,undef,undef,undef,undef,undef,undef,undef,undef,undef,undef,undef,undef,undef,undef,undef,undef,undef,undef,undef,undef,undef,undef,undef,undef,undef,undef,undef,undef,undef,undef,undef,undef,undef,undef,undef,undef,undef,undef,undef,undef,undef,undef,undef,undef,undef,undef,undef,undef,undef,undef,undef,undef,undef,undef,undef,undef,undef,undef,undef,undef,undef,undef,undef,undef,undef,undef,undef,undef],defers:=[] })
  ?ownA
  ?assign ?body ?done ?stop
 case own =>
  rintro pre X Y r ⟨h0,h1,h2,h3⟩ hg hr
  exact ⟨h0,qhr _ _ () X Y r h1 hg hr,HR0.out.own (Nat.le_refl _) h2 hg fun q e=>(hr q e).1,h3⟩
 case ownx =>
  rintro c pre X Y r ⟨h0,h1,h2⟩ hg hr
  exact ⟨h0,qhr _ _ () X Y r h1 hg hr,HR0.out.own (Nat.le_refl _) h2 hg fun q e=>(hr q e).1⟩
 case ownA =>
  rintro pre x a' _ X Y row ⟨hs,bi,h1,h2,h3⟩ hg hr
  exact ⟨⟨hs.1,hs.2.1,ql0 () X Y row hs.2.2 hg hr⟩,bi,h1,(hg.block bi h2.lt fun e=>by
   obtain ⟨_,o',h4,h5⟩:=hr bi e.symm
   rw [show X.heap[bi]? = _ from h2] at h4
   cases h4
   cases h5).trans h2,h3⟩
 case assign =>
  rintro l2 pre ⟨xi,xv⟩ W Kc' ⟨h0,h1,h2,h3⟩ hG hK
  unfold qh5
  simp only
  gi_wp2
  have hx:Ext W (W.alloc (.cells #[.int .i64 (xi:Int)] 3)):=(Ext.refl W).alloc _
  exact hK _ _ ((KeepsOthers.alloc _ _).from _) (Kc.of_bt hx.bt) ⟨h0,h1.ext hx,h2.ext hx,h3⟩ ⟨⟨hG.1,hG.2.1,hG.2.2.ext qac.good hx⟩,W.heap.size,h1.size,Boxed.new W 3 _,rfl⟩
 case body =>
  rintro l2 pre ⟨xi,xv⟩ a' W hl2 hloop ⟨hpl,hbt,hrc,hgo⟩ ⟨⟨hx1,hx2,hx3⟩,bi,hbi,hbox,rfl⟩
  simp only at hx1 hx2 hx3 hbox
  obtain rfl:=hx1
  obtain ⟨k,hk⟩:∃ k,pre.length=k:=⟨_,rfl⟩
  rw [hk] at hpl hrc hgo hx2 hx3 hbox ⊢
  have hZW:Kp Z W0 W:=hbt.kp fun q _ hq=>(HZD.out q hq).2
  have HSW:=Hd (HS0.out.move hZW)
  have HTW:=Hd (qaa.good.move HT0.out hZW)
  have HMW:=Hd (qaa.good.move HM0.out hZW)
  have hzW:=hbt.size
  have x0:=hbt.cell HB.out.1 (HZD.out _ hz0).2
  have x10:=hbt.cell HB.out.2.1 (HZD.out _ hz1).2
  have x11:=hbt.cell HB.out.2.2.1 (HZD.out _ hz1).2
  have x20:=hbt.cell HB.out.2.2.2.1 (HZD.out _ hz2).2
  have x21:=hbt.cell HB.out.2.2.2.2 (HZD.out _ hz2).2
  have xb:=hbox.cell
  have hbilt:=hbox.lt
  have hlen:=qpk s t c0 k
  rw [HL.out.1,HL.out.2] at hlen
  obtain ⟨m,hm⟩:∃ m,t.tr.length+1-k=m+1:=⟨t.tr.length-k,by omega⟩
  obtain ⟨r0,hrec⟩:=hloop
  have hl2lt:l2<W.heap.size:=(Array.getElem?_eq_some_iff.1 hrec).1
  have hgo':=hgo.out
  rw [hm,cvGo] at hgo'
  obtain ⟨sts,hsts⟩:∃ sts,qal s (t.tr.take k)=sts:=⟨_,rfl⟩
  have hstl:sts.length<=200000:=by rw [<- hsts];have:=qny s (t.tr.take k);have:=hok.2.2.2.1;omega
  rw [hsts] at hgo' hx3
  have HX3:=Hd hx3
  have HRC:=Hd hrc
  have HBT:=Hd hbt
  have HPK:=Hd hk
  have HBX:=Hd hbox
  have HLN:=Hd hlen
  have HST:=Hd hsts
  obtain ⟨A3,c3,rfl,_,_⟩:=(hx3.sl qac.good (by decide)).val
  clear hx3 hrc hbt hk hbox hlen hsts hgo hpl
  by_cases hem:sts=[]
  ·rw [if_pos hem] at hgo'
   have hl0:((sts.length:Int) == 0)=true:=by rw [hem];rfl
   have HG:=Hd hgo'
   clear hgo' hem
   gi_wp2_with fail
   refine ⟨KeepsFrom.refl _ _,rfl,HBT.out,?_⟩
   rw [<- HG.out]
   exact HRC.out
  rw [if_neg hem] at hgo'
  have HG:=Hd hgo'
  have hl0:((sts.length:Int) == 0)=false:=beq_eq_false_iff_ne.2 (by cases sts with
   | nil=>exact absurd rfl hem
   | cons a b=>simp only [List.length_cons];omega)
  clear hgo' hem
  have hfinF:∀ (Wf:World),Bt Zc W Wf->RBs base Wf (cvMu s t k (qca s t.tr k (qas s t c0 k).l)) (.slice A1 c0.l.length k1)->RBs base Wf (qb8 s t.tr k sts (qas s t c0 k).e) (.slice A2 c0.e.length k2)->∀ y:Nat×Value,
    KeepsFrom W0.heap.size W Wf∧Kc Zc W0.heap.size W Wf∧(pre++[y]).length<=t.tr.length+1∧Bt Zc W0 Wf∧RCv base Wf (qas s t c0 (pre++[y]).length) (.slice A1 c0.l.length k1) (.slice A2 c0.e.length k2)∧Hid (cvGo s t (t.tr.length+1-(pre++[y]).length) (pre++[y]).length (qas s t c0 (pre++[y]).length)=qd8 s t c0):=fun Wf hb hl he y=>by
   have hln:(pre++[y]).length=k+1:=by rw [List.length_append,List.length_singleton,HPK.out]
   have hup:qas s t c0 (k+1)=⟨cvMu s t k (qca s t.tr k (qas s t c0 k).l),qb8 s t.tr k sts (qas s t c0 k).e⟩:=by show qhe s t k (qas s t c0 k)=_;rw [qhe,HST.out]
   rw [hln]
   refine ⟨qj1 hb _ fun q o hn hz _=>by have:=hZlt0.out q hz;omega,Kc.of_bt hb,by omega,HBT.out.trans hb,?_,?_⟩
   ·rw [hup]
    exact ⟨hl,he,HRC.out.ap⟩
   ·show _=_
    rw [show t.tr.length+1-(k+1)=m from by omega]
    exact HG.out
  have HFIN:=Hd hfinF
  clear hfinF
  rcases Nat.eq_zero_or_pos k with hk0 | hk0
  ·have hkd:k<=0:=by omega
   have HLS:=Hd (show qca s t.tr k (qas s t c0 k).l=(qas s t c0 k).l from by rw [hk0];rfl)
   clear hk0
   gi_wp2_with fail
   have HL3:Hid (RBs base W (qca s t.tr k (qas s t c0 k).l) (.slice A1 c0.l.length k1)):=by show RBs _ _ _ _;rw [HLS.out];exact HRC.out.l
   have HE3:Hid (RBs base W (qas s t c0 k).e (.slice A2 c0.e.length k2)):=HRC.out.e
   obtain ⟨W3,hW3⟩:∃ W3,W=W3:=⟨_,rfl⟩
   have HB3w:Hid (Bt Zc W W3):=by show Bt _ _ _;rw [hW3];exact Bt.refl _ _
   rw [hW3] at HL3 HE3
   have hgoal:=hW3
   rw [hW3]
   clear hgoal
   generalize decide (0<k)=bk
   gi_loopw [37] (fun vi wr=>∃ i:Nat,i<=sts.length∧vi = .int .i64 i∧Bt Zc W wr∧RBs base wr (qca s t.tr k (qas s t c0 k).l) (.slice A1 c0.l.length k1)∧RBs base wr (qb8 s t.tr k (sts.take i) (qas s t c0 k).e) (.slice A2 c0.e.length k2)) (fun vi _=>sts.length-(intOf vi).toNat)
   case atStart=>exact ⟨0,Nat.zero_le _,rfl,HB3w.out,HL3.out,HE3.out⟩
   case round =>
    obtain ⟨i,hi,rfl,hbr,hlr,her⟩:=hrel
    have hZW2:Kp (fun q=>Z q∨W0.heap.size<=q) W wr:=hbr.kp fun q _ hq hz=>by
     rcases hq with h | h
     ·exact (HZD.out q h).2 hz
     ·have:=hZlt0.out q hz;omega
    by_cases hlt:i<sts.length
    ·have hsr:=(RSl.good qac.good).move ((RSl.good qac.good).mono (HX3.out.sl qac.good (by decide)) (S':=fun q=>Z q∨W0.heap.size<=q) fun q _ h=>.inr (h.resolve_left id)) hZW2
     obtain ⟨b,off,cs,hA,hb,hT,hl,hr,hcell⟩:=hsr.get i hlt
     obtain rfl:=hA
     obtain rfl:=hr.1
     have s0:=(by simpa using hcell.get 0 _:wr.cell? ⟨b,off+i,none⟩=some (.int .i64 sts[i]))
     have y0:=hbr.cell x0 (HZD.out _ hz0).2
     have HBR:=Hd hbr
     have HLR:=Hd hlr
     have HER:=Hd her
     clear hbr hlr her hcell hr hl hT hsr
     gi_wp2_with fail
     refine ⟨trivial,?_⟩
     gi_at_call 175
     refine (CallsIn.inRound l2 (qjg 2 (some ⟨g,0,none⟩) sts[i] wr)).mono ?_
     rintro e w' ⟨rfl,rfl⟩
     gi_wp2_with fail
     obtain ⟨W2,hW2⟩:∃ W2,(wr.alloc (.cells #[.pointer (some ⟨g,0,none⟩)] 111)).alloc (.cells #[.int .i64 sts[i]] 3)=W2:=⟨_,rfl⟩
     have hsz2:W2.heap.size=wr.heap.size+2:=by rw [<- hW2];show (World.heap _).size=_;simp
     have hX2:Ext wr W2:=by rw [<- hW2];exact ((Ext.refl wr).alloc _).alloc _
     have bs2:Boxed W2 wr.heap.size 111 (.pointer (some ⟨g,0,none⟩)):=by rw [<- hW2];exact ((Boxed.new wr 111 _).alloc _)
     have bt2:Boxed W2 (wr.heap.size+1) 3 (.int .i64 sts[i]):=by rw [<- hW2];have:=Boxed.new (wr.alloc (.cells #[.pointer (some ⟨g,0,none⟩)] 111)) 3 (.int .i64 sts[i]);rwa [World.size_alloc] at this
     rw [hW2]
     clear hW2
     obtain ⟨Z',hZ'⟩:∃ Z':Nat->Prop,Z'=fun q=>Z q∨q=wr.heap.size:=⟨_,rfl⟩
     have hwrs:=HBR.out.size
     have hZ'lt:∀ q,Z' q->q<W2.heap.size∧¬ Zc q:=fun q hq=>by
      rw [hZ'] at hq
      rcases hq with h | h
      ·have:=HZD.out q h
       exact ⟨by omega,this.2⟩
      ·exact ⟨by omega,fun hz=>by have:=hZlt0.out q hz;omega⟩
     have hS2:qav Z' W2 g s:=((HSW.out.move (HBR.out.kp fun q _ hq=>(HZD.out q hq).2)).mono (S':=Z') fun q _ h=>by rw [hZ'];exact .inl h).bel hX2
     have hrec2:W2.heap[l2]? = some (.loop r0):=(hX2.block _ (by omega)).trans ((HBR.out.block _ hl2lt (fun hz=>by have:=hZlt0.out _ hz;omega)).trans hrec)
     have hl2r:RBs base W2 (qca s t.tr k (qas s t c0 k).l) (.slice A1 c0.l.length k1):=HLR.out.ext qae.good hX2
     have he2r:RBs base W2 (qb8 s t.tr k (sts.take i) (qas s t c0 k).e) (.slice A2 c0.e.length k2):=HER.out.ext qae.good hX2
     have hbt2:Bt Zc W W2:=HBR.out.ext hX2
     refine wpIn_rangeFunc_ownN (l₀:=l2) rfl hrec2 (by omega) (gf:=234) (lb:=#[.pointer (some ⟨wr.heap.size,0,none⟩),.pointer (some ⟨wr.heap.size+1,0,none⟩)]) rfl trivial (enters_of Tryz.func234 (by kernel_rfl) rfl)
      (SeqStopsK.inRound l2 (qjh (3-1) (by omega) Z' s g wr.heap.size (wr.heap.size+1) sts[i] (by rw [hZ'];exact .inr rfl) W2 hS2 bs2.cell bt2.cell)) kp_t (kp_b fun q hq=>(hZ'lt q hq).1) (Below.refl _ _) (fun _=>rfl)
      (fun pj X=>Bt Zc W2 X∧RBs base X (qca s t.tr k (qas s t c0 k).l) (.slice A1 c0.l.length k1)∧RBs base X (qds s t.tr k pj (qb8 s t.tr k (sts.take i) (qas s t c0 k).e)) (.slice A2 c0.e.length k2)) (fun _ _ _=>False) ?ownI (fun _ _ _ _ _ hs _ _=>hs)
      ⟨Bt.refl _ _,hl2r,he2r⟩
      (fun j a' X=>∃ Bx,W2.heap.size<=Bx∧X.heap[Bx]? = some (.cells #[.int .i64 s.es[j].f,.int .i64 s.es[j].l,.int .i64 s.es[j].t] 88)∧a'={ tmps:=#[.pointer (some ⟨g,0,none⟩),.agg #[.slice A1 c0.l.length k1,.slice A2 c0.e.length k2],.agg #[.slice At t.tr.length ct,.slice Am t.mu.length cm],.pointer (some ⟨w.heap.size,0,none⟩),.pointer (some ⟨w.heap.size+1,0,none⟩),.pointer (some ⟨w.heap.size+2,0,none⟩),.pointer (some ⟨bi,0,none⟩),.slice (some ⟨b,off,none⟩) sts.length c3,undef,.int .i64 sts[i],.int .i64 (j.1:Int),.pointer (some ⟨Bx,0,none⟩),u12,undef,undef,.pointer (some ⟨g,0,none⟩),.pointer (some ⟨w.heap.size+2,0,none⟩),.slice At t.tr.length ct,.func (.func 220) #[] #[.pointer (some ⟨w.heap.size+3,0,none⟩),.pointer (some ⟨w.heap.size+4,0,none⟩)],.int .i64 (k:Int),.slice (some ⟨b,off,none⟩) sts.length c3,.slice (some ⟨b,off,none⟩) sts.length c3,.int .i64 (sts.length:Int),.bool false,.int .i64 (k:Int),.bool bk,undef,undef,undef,undef,undef,undef,undef,undef,undef,.slice (some ⟨b,off,none⟩) sts.length c3,.int .i64 (sts.length:Int),.int .i64 (i:Int),.bool true,.pointer (some ⟨b,off+i,none⟩),.int .i64 sts[i],.pointer (some ⟨g,0,none⟩),.int .i64 sts[i],.func (.func 234) #[] #[.pointer (some ⟨wr.heap.size,0,none⟩),.pointer (some ⟨wr.heap.size+1,0,none⟩)],.int .i64 (j.1:Int),.agg #[.int .i64 s.es[j].f,.int .i64 s.es[j].l,.int .i64 s.es[j].t],u46,u47,u48,u49,u50,u51,u52,u53,u54,u55,u56,u57,u58,u59,u60,u61,u62,u63,u64,u65,u66,u67,u68,u69,u70,u71,u72,u73,u74,u75,u76,u77,u78,u79,u80,u81,u82,u83,undef,undef,undef,undef,undef,undef,undef,undef,undef,undef,undef,undef,undef,undef,undef,undef,undef],defers:=[] })
      (fun j a' _ X Y row hs hg hr=>by
       obtain ⟨Bx,h1,h2,h3⟩:=hs
       exact ⟨Bx,h1,(hg.block Bx (Array.getElem?_eq_some_iff.1 h2).1 fun e=>by
        obtain ⟨_,o',h4,h5⟩:=hr Bx e.symm
        rw [h2] at h4
        cases h4
        cases h5).trans h2,h3⟩)
      ?asgI ?bodyI ?doneI ?stopI
     case ownI =>
      rintro pj X Y r ⟨h1,h2,h3⟩ hg hr
      exact ⟨qhr _ _ () X Y r h1 hg hr,qle hl2r (Nat.le_refl _) h2 hg fun q e=>(hr q e).1,qle he2r (Nat.le_refl _) h3 hg fun q e=>(hr q e).1⟩
     case asgI =>
      rintro l3 pj j X K hI hK
      unfold qgy
      gi_wp2
      have hx:Ext X (X.alloc (.cells #[.int .i64 s.es[j].f,.int .i64 s.es[j].l,.int .i64 s.es[j].t] 88)):=(Ext.refl X).alloc _
      exact hK _ _ ((KeepsOthers.alloc _ _).from _) (Ext.kp hx) ⟨hI.1.ext hx,hI.2.1.ext qae.good hx,hI.2.2.ext qae.good hx⟩ ⟨X.heap.size,hI.1.size,World.alloc_heap_new X _,rfl⟩
     case bodyI =>
      rintro l3 pj j a' X hl3 _ ⟨hbj,hlj,hej⟩ ⟨Bx,hBx,hbox,rfl⟩ _
      obtain ⟨xi,hxl⟩:=j
      have hed:=(hok.2.2.2.2.2 xi hxl).1
      have hlab:0<=s.es[xi].l∧s.es[xi].l<s.ls.length:=by
       simp only [qbw,isB,Bool.and_eq_true,decide_eq_true_eq] at hed
       omega
      obtain ⟨li,hli⟩:∃ li:Nat,s.es[xi].l=(li:Int):=⟨s.es[xi].l.toNat,by omega⟩
      have hli2:li<s.ls.length:=by omega
      have hkX:Kp Z W X:=(hbt2.trans hbj).kp fun q _ hq=>(HZD.out q hq).2
      have hbX:Bt Zc W X:=hbt2.trans hbj
      obtain ⟨v',u',m',f',h1,h2,h3,h4,h5,h6,h7,h8⟩:=(HSW.out.move hkX).ex
      obtain ⟨bl,ol,cl,csl,rfl,hbl,hSl,hll,hrl,hcl⟩:=h2.at li hli2
      obtain ⟨il,vl,rfl,hvl⟩:=id hrl
      obtain ⟨Al,clv,rfl,_,_⟩:=hvl.val
      have g1:X.cell? ⟨g,1,none⟩=some (.slice (some ⟨bl,ol,none⟩) s.ls.length cl):=cell_of_row X _ 1 _ _ _ h1
      have gl:X.cell? ⟨bl,ol+li*2,none⟩=some (.int .i64 s.ls[li].g):=by simpa using hcl.get 0 _
      have gl1:X.cell? ⟨bl,ol+li*2+1,none⟩=some (.slice Al s.ls[li].v.length clv):=hcl.get 1 _
      have e1:X.cell? ⟨Bx,1,none⟩=some (.int .i64 (li:Int)):=by rw [<- hli];exact cell_of_row X _ 1 _ _ _ hbox
      have y0:=hbX.cell x0 (HZD.out _ hz0).2
      have y11:=hbX.cell x11 (HZD.out _ hz1).2
      have y20:=hbX.cell x20 (HZD.out _ hz2).2
      have yb:=hbX.cell xb (fun hz=>by have h5:=hZlt0.out bi hz;omega)
      have hTX:=qaa.good.move HTW.out hkX
      have HTX:=Hd hTX
      have hrl0:=hrl
      have HXJ:=Hd (And.intro hbj (And.intro hlj hej))
      have hgate:qhj s t.tr k s.es[xi].l=(decide (s.ls[li].g = -1) || (match t.tr[k]? with | some x=>qa0 s.ls[li].g && decide (qan s.ls[li] x=0) | none=>false)):=qgj s _ hli hli2
      have HGT:=Hd hgate
      have hone:qds s t.tr k (pj++[⟨xi,hxl⟩]) (qb8 s t.tr k (sts.take i) (qas s t c0 k).e)=qf0 s t.tr k (qds s t.tr k pj (qb8 s t.tr k (sts.take i) (qas s t c0 k).e)) ⟨xi,hxl⟩:=qqc ..
      obtain ⟨es0,hes0⟩:∃ es0,qds s t.tr k pj (qb8 s t.tr k (sts.take i) (qas s t c0 k).e)=es0:=⟨_,rfl⟩
      have hesl:es0.length=s.es.length:=by rw [<- hes0,qkw,qkv];exact HLN.out.2
      rw [hes0] at hone hej
      obtain ⟨g2,cap2,he2⟩:=(by obtain ⟨news,hrow,_⟩:=hej;exact Joins.ownsRow_form hrow (by omega):∃ g2 cap2,Value.slice A2 c0.e.length k2 = .slice (some ⟨g2,0,none⟩) es0.length cap2)
      injection he2 with he21 he22 he23
      subst he21
      subst he23
      have xil:xi<es0.length:=by omega
      obtain ⟨ub,gc,hub,gf⟩:=qab.get1 hej xi xil
      obtain ⟨bv,rfl⟩:∃ bv,ub = .bool bv:=⟨es0[xi]'xil,by simpa [qae] using hub⟩
      have hnoF:qhj s t.tr k s.es[xi].l=false->∀ w4,Ext X w4->KeepsFrom W2.heap.size X w4∧Kp Z' X w4∧Bt Zc W2 w4∧RBs base w4 (qca s t.tr k (qas s t c0 k).l) (.slice A1 c0.l.length k1)∧RBs base w4 (qds s t.tr k (pj++[⟨xi,hxl⟩]) (qb8 s t.tr k (sts.take i) (qas s t c0 k).e)) (.slice (some ⟨g2,0,none⟩) c0.e.length k2):=fun hh w4 h4=>by
       refine ⟨qeq h4 _,Ext.kp h4,hbj.ext h4,hlj.ext qae.good h4,?_⟩
       rw [hone,qf0,if_neg (by rw [show s.es[(⟨xi,hxl⟩:Fin s.es.length)]=s.es[xi] from rfl,hh];decide)]
       exact hej.ext qae.good h4
      have hyesF:qhj s t.tr k s.es[xi].l=true->∀ w4,Ext X w4->KeepsFrom W2.heap.size X (w4.setCell ⟨g2,xi,none⟩ (.bool true))∧Kp Z' X (w4.setCell ⟨g2,xi,none⟩ (.bool true))∧Bt Zc W2 (w4.setCell ⟨g2,xi,none⟩ (.bool true))∧RBs base (w4.setCell ⟨g2,xi,none⟩ (.bool true)) (qca s t.tr k (qas s t c0 k).l) (.slice A1 c0.l.length k1)∧RBs base (w4.setCell ⟨g2,xi,none⟩ (.bool true)) (qds s t.tr k (pj++[⟨xi,hxl⟩]) (qb8 s t.tr k (sts.take i) (qas s t c0 k).e)) (.slice (some ⟨g2,0,none⟩) c0.e.length k2):=fun hh w4 h4=>by
       have hzg:Zc g2:=by rw [hZc];exact .inr rfl
       have hbs:Bt Zc X (w4.setCell ⟨g2,xi,none⟩ (.bool true)):=Bt.set (p:=⟨g2,xi,none⟩) h4.bt (.inr hzg) _
       refine ⟨qj1 hbs _ fun q o hn hz _=>by have:=hZlt0.out q hz;omega,hbs.kp fun q _ hq=>(hZ'lt q hq).2,hbj.trans hbs,?_,?_⟩
       ·refine qfd (hlj.ext qae.good h4) (Bt.set (Z:=fun q=>q=g2) (p:=⟨g2,xi,none⟩) (Bt.refl _ w4) (.inr rfl) (.bool true)) fun q e e'=>?_
        subst e'
        exact HRC.out.ap q e rfl
       ·rw [hone,qf0,if_pos (by rw [show s.es[(⟨xi,hxl⟩:Fin s.es.length)]=s.es[xi] from rfl,hh])]
        exact qab.put1 qae.good (hej.ext qae.good h4) he22 xi (.bool true) true (by omega) rfl
      have HNF:=Hd hnoF
      have HYF:=Hd hyesF
      have HN2:=Hd he22
      have hxlc:xi<c0.e.length:=by omega
      have hz1':(0:Int)<=(li:Int):=by omega
      have hz2':(li:Int)<(s.ls.length:Int):=by omega
      have HRL:=Hd hrl
      have HLI:=Hd hli
      clear he22
      clear hnoF hyesF hgate hone hub hesl hes0 hli hbj hlj hej h1 h2 h3 h6 h7 h8 hrl hrl0 hcl hvl hed hbox hll hTX
      gi_wp2_with fail
      refine wpIn_mono (Q:=Exit.then (fun a' w'=>a'={ tmps:=#[.pointer (some ⟨g,0,none⟩),.agg #[.slice A1 c0.l.length k1,.slice (some ⟨g2,0,none⟩) c0.e.length k2],.agg #[.slice At t.tr.length ct,.slice Am t.mu.length cm],.pointer (some ⟨w.heap.size,0,none⟩),.pointer (some ⟨w.heap.size+1,0,none⟩),.pointer (some ⟨w.heap.size+2,0,none⟩),.pointer (some ⟨bi,0,none⟩),.slice (some ⟨b,off,none⟩) sts.length c3,undef,.int .i64 sts[i],.int .i64 (xi:Int),.pointer (some ⟨Bx,0,none⟩),.pointer (some ⟨X.heap.size,0,none⟩),undef,undef,.pointer (some ⟨g,0,none⟩),.pointer (some ⟨w.heap.size+2,0,none⟩),.slice At t.tr.length ct,.func (.func 220) #[] #[.pointer (some ⟨w.heap.size+3,0,none⟩),.pointer (some ⟨w.heap.size+4,0,none⟩)],.int .i64 (k:Int),.slice (some ⟨b,off,none⟩) sts.length c3,.slice (some ⟨b,off,none⟩) sts.length c3,.int .i64 (sts.length:Int),.bool false,.int .i64 (k:Int),.bool bk,undef,undef,undef,undef,undef,undef,undef,undef,undef,.slice (some ⟨b,off,none⟩) sts.length c3,.int .i64 (sts.length:Int),.int .i64 (i:Int),.bool true,.pointer (some ⟨b,off+i,none⟩),.int .i64 sts[i],.pointer (some ⟨g,0,none⟩),.int .i64 sts[i],.func (.func 234) #[] #[.pointer (some ⟨wr.heap.size,0,none⟩),.pointer (some ⟨wr.heap.size+1,0,none⟩)],.int .i64 (xi:Int),.agg #[.int .i64 s.es[xi].f,.int .i64 s.es[xi].l,.int .i64 s.es[xi].t],.pointer (some ⟨g,0,none⟩),.pointer (some ⟨g,0,none⟩),.pointer (some ⟨g,0,none⟩),.pointer (some ⟨g,1,none⟩),.slice (some ⟨bl,ol,none⟩) s.ls.length cl,.pointer (some ⟨Bx,1,none⟩),.int .i64 (li:Int),.pointer (some ⟨bl,ol+li*2,none⟩),.agg #[.int .i64 s.ls[li].g,.slice Al s.ls[li].v.length clv],u55,u56,u57,u58,u59,u60,u61,u62,u63,u64,u65,u66,u67,u68,u69,u70,u71,u72,u73,u74,u75,u76,u77,u78,u79,u80,u81,u82,u83,undef,undef,undef,undef,undef,undef,undef,undef,undef,undef,undef,undef,undef,undef,undef,undef,undef],defers:=[] }∧w'=(X.alloc (.cells #[.int .i64 s.ls[li].g,.slice Al s.ls[li].v.length clv] 61)).drew) (fun _ _ _=>False)) ?reg13 ?aft13
      case reg13 =>
       refine qot (l:=l3) (fun Y=>Y.cell? ⟨w.heap.size,0,none⟩=some (.pointer (some ⟨g,0,none⟩))∧Y.cell? ⟨g,1,none⟩=some (.slice (some ⟨bl,ol,none⟩) s.ls.length cl)∧Y.cell? ⟨Bx,1,none⟩=some (.int .i64 (li:Int))∧Y.cell? ⟨bl,ol+li*2,none⟩=some (.int .i64 s.ls[li].g)∧Y.cell? ⟨bl,ol+li*2+1,none⟩=some (.slice Al s.ls[li].v.length clv)) (by kernel_rfl) (by kernel_rfl) (by rintro ⟨_,_,h⟩;exact h) ⟨y0,g1,e1,gl,gl1⟩ (fun hHeld=>?_)
       (refine tk 0 ?_;try simp only [qai])
       (refine tk 1 ?_;try simp only [qai])
       (refine tk 2 ?_;try simp only [qai])
       (refine tk 3 ?_;try simp only [qai])
       (refine tk 4 ?_;try simp only [qai])
       (refine tk 5 ?_;try simp only [qai])
       (refine tk 6 ?_;try simp only [qai])
       (refine tk 7 ?_;try simp only [qai])
       (refine tk 8 ?_;try simp only [qai])
       refine wpAnyH_ready (rs:=[9]) (by kernel_rfl) (by simp) ?_
       refine AllReadyH.cons rfl (fun K hK=>?_) AllReadyH.nil
       go_simp
       have hk1:Ext X (X.alloc (.cells #[.int .i64 0,.slice none 0 0] 61)).drew:=Below.drew ((Ext.refl X).alloc _)
       refine hK.out _ _ ⟨Ext.keep hk1 y0,Ext.keep hk1 g1,Ext.keep hk1 e1,Ext.keep hk1 gl,Ext.keep hk1 gl1⟩ (fun hHeld2=>?_)
       refine wpAnyH_ready (rs:=[10]) (by kernel_rfl) (by simp) ?_
       refine AllReadyH.cons rfl (fun K2 hK2=>?_) AllReadyH.nil
       go_simp
       have hk2:Ext X (X.alloc (.cells #[.int .i64 s.ls[li].g,.slice Al s.ls[li].v.length clv] 61)).drew:=Below.drew ((Ext.refl X).alloc _)
       refine hK2.out _ _ ⟨Ext.keep hk2 y0,Ext.keep hk2 g1,Ext.keep hk2 e1,Ext.keep hk2 gl,Ext.keep hk2 gl1⟩ (fun hHeld3=>?_)
       refine wpAnyH_done (by kernel_rfl) ?_ _
       exact ⟨rfl,rfl⟩
      case aft13 =>
       rintro e a4 W4 h
       cases e with
       | normal =>
        obtain ⟨rfl,rfl⟩:=h
        have hk2:Ext X (X.alloc (.cells #[.int .i64 s.ls[li].g,.slice Al s.ls[li].v.length clv] 61)).drew:=Below.drew ((Ext.refl X).alloc _)
        have z0:(X.alloc (.cells #[.int .i64 s.ls[li].g,.slice Al s.ls[li].v.length clv] 61)).drew.cell? ⟨X.heap.size,0,none⟩=some (.int .i64 s.ls[li].g):=by go_simp
        have z1:(X.alloc (.cells #[.int .i64 s.ls[li].g,.slice Al s.ls[li].v.length clv] 61)).drew.cell? ⟨X.heap.size,1,none⟩=some (.slice Al s.ls[li].v.length clv):=by go_simp
        obtain ⟨Xa,hXa⟩:∃ Xa,(X.alloc (.cells #[.int .i64 s.ls[li].g,.slice Al s.ls[li].v.length clv] 61)).drew=Xa:=⟨_,rfl⟩
        rw [hXa] at hk2 z0 z1 ⊢
        clear hXa g1 gl gl1 e1
        have y0:=Ext.keep hk2 y0
        have y11:=Ext.keep hk2 y11
        have y20:=Ext.keep hk2 y20
        have yb:=Ext.keep hk2 yb
        have hvis:=fun Y=>qih s.ls[li].g (.slice Al s.ls[li].v.length clv) (qak Xa Y)
        by_cases hg1:s.ls[li].g = -1
        ·have hb1:(s.ls[li].g == -1)=true:=beq_iff_eq.2 hg1
         have HG1:=Hd hg1
         clear hg1 hvis
         gi_wp2_with fail
         (refine qcy (by kernel_rfl) (by kernel_rfl) (by kernel_rfl) ?_;(repeat (first | go_big_quiet_step ((fail)) | quiet_step ((fail))));refine wpQuiet_nil ?_)
         intro w4 hx4
         have hx5:=hk2.trans' hx4
         have y11:=Ext.keep hx4 y11
         have gc4:=Ext.keep hx5 gc
         have gf4:=qc6 hx5 (World.block_lt_of_cell? X _ gc) gf
         gi_wp2
         exact HYF.out (by rw [HGT.out];rw [decide_eq_true HG1.out];rfl) w4 hx5
        have hb1:(s.ls[li].g == -1)=false:=beq_eq_false_iff_ne.2 hg1
        have HG1:=Hd hg1
        clear hg1
        by_cases hkl:k<t.tr.length
        case neg =>
         have hkl':decide ((k:Int)<(t.tr.length:Int))=false:=decide_eq_false (by omega)
         gi_wp2_with fail
         (refine qcy (by kernel_rfl) (by kernel_rfl) (by kernel_rfl) ?_;(repeat (first | go_big_quiet_step ((fail)) | quiet_step ((fail))));refine wpQuiet_nil ?_)
         intro w4 hx4
         gi_wp2
         exact HNF.out (by rw [HGT.out];rw [decide_eq_false HG1.out,List.getElem?_eq_none (by omega)];rfl) w4 (hk2.trans' hx4)
        have hkl':decide ((k:Int)<(t.tr.length:Int))=true:=decide_eq_true (by omega)
        have HKL:=Hd (List.getElem?_eq_getElem hkl)
        by_cases hvb:qa0 s.ls[li].g=true
        case neg =>
         have hv:∀ Y,Calls Tryz.prog 176 #[.agg #[.int .i64 s.ls[li].g,.slice Al s.ls[li].v.length clv]] (qak Xa Y) fun e w'=>e = .returned (.bool false)∧Ext (qak Xa Y) w':=fun Y=>by have:=hvis Y;rwa [eq_false_of_ne_true hvb] at this
         have HVB:=Hd (eq_false_of_ne_true hvb)
         clear hvis hvb
         gi_wp2_with fail
         (refine qcy (by kernel_rfl) (by kernel_rfl) (by kernel_rfl) ?_;(repeat (first | go_big_quiet_step ((go_at_call 176;exact qbe (hv _))) | quiet_step ((go_at_call 176;exact qbe (hv _)))));refine wpQuiet_nil ?_)
         intro w4 hx4
         gi_wp2
         exact HNF.out (by rw [HGT.out];rw [decide_eq_false HG1.out,HKL.out];simp only [HVB.out];rfl) w4 (hk2.trans' hx4)
        have hv:∀ Y,Calls Tryz.prog 176 #[.agg #[.int .i64 s.ls[li].g,.slice Al s.ls[li].v.length clv]] (qak Xa Y) fun e w'=>e = .returned (.bool true)∧Ext (qak Xa Y) w':=fun Y=>by have:=hvis Y;rwa [hvb] at this
        have HVB:=Hd hvb
        clear hvis hvb
        have hTa:=qaa.good.bel HTX.out hk2
        obtain ⟨bq,oq,cq,hA,hbq,_,hlq,hrq,hcq⟩:=hTa.get k hkl
        obtain rfl:=hA
        obtain ⟨_,vq,rfl,hvq⟩:=id hrq
        obtain ⟨Aq,cvq,rfl,_,_⟩:=hvq.val
        have t0:=hcq.get 0 _
        have t1:=hcq.get 1 _
        simp only [Nat.add_zero] at t0
        have hcmp:=fun Y=>qhu _ s.ls[li] t.tr[k] _ _ (qak Xa Y) (RLb.good.bel HRL.out (hk2.trans' (qa5 Xa Y))) (RLb.good.bel hrq (qa5 Xa Y))
        clear hTa hlq hrq hcq hvq
        by_cases hcz:qan s.ls[li] t.tr[k]=0
        case neg =>
         have hb2:(qan s.ls[li] t.tr[k] == 0)=false:=beq_eq_false_iff_ne.2 hcz
         have HCZ:=Hd hcz
         clear hcz
         gi_wp2_with fail
         (refine qcy (by kernel_rfl) (by kernel_rfl) (by kernel_rfl) ?_;(repeat (first | go_big_quiet_step ((first | (go_at_call 176;exact qbe (hv _)) | (go_at_call 166;exact qap (hcmp _)))) | quiet_step ((first | (go_at_call 176;exact qbe (hv _)) | (go_at_call 166;exact qap (hcmp _))))));refine wpQuiet_nil ?_)
         intro w4 hx4
         gi_wp2
         exact HNF.out (by rw [HGT.out];rw [decide_eq_false HG1.out,HKL.out];simp only [HVB.out,decide_eq_false HCZ.out];rfl) w4 (hk2.trans' hx4)
        have hb2:(qan s.ls[li] t.tr[k] == 0)=true:=beq_iff_eq.2 hcz
        have HCZ:=Hd hcz
        clear hcz
        gi_wp2_with fail
        (refine qcy (by kernel_rfl) (by kernel_rfl) (by kernel_rfl) ?_;(repeat (first | go_big_quiet_step ((first | (go_at_call 176;exact qbe (hv _)) | (go_at_call 166;exact qap (hcmp _)))) | quiet_step ((first | (go_at_call 176;exact qbe (hv _)) | (go_at_call 166;exact qap (hcmp _))))));refine wpQuiet_nil ?_)
        intro w4 hx4
        have hx5:=hk2.trans' hx4
        have y11:=Ext.keep hx4 y11
        have gc4:=Ext.keep hx5 gc
        have gf4:=qc6 hx5 (World.block_lt_of_cell? X _ gc) gf
        gi_wp2
        exact HYF.out (by rw [HGT.out];rw [decide_eq_false HG1.out,HKL.out];simp only [HVB.out,decide_eq_true HCZ.out];rfl) w4 hx5
       | _=>exact h.elim
     case doneI =>
      rintro ys X rfl ⟨h1,h2,h3⟩
      have HX1:=Hd h1
      have HX2:=Hd h2
      have HX3':=Hd h3
      clear h1 h2 h3
      gi_wp2_with fail
      go_roundw
      case rel =>
       refine ⟨i+1,by omega,by go_num,hbt2.trans HX1.out,HX2.out,?_⟩
       rw [List.take_succ_eq_append_getElem hlt,qrq]
       exact HX3'.out
      case measure=>simp [intOf];omega
     case stopI =>
      rintro c pj X _ h _
      exact h.elim
    ·obtain rfl:i=sts.length:=by omega
     rw [List.take_length] at her
     have y20:=hbr.cell x20 (HZD.out _ hz2).2
     have y21:=hbr.cell x21 (HZD.out _ hz2).2
     have yb:=hbr.cell xb (fun hz=>by have h5:=hZlt0.out bi hz;omega)
     have HBR:=Hd hbr
     have HLR:=Hd hlr
     have HER:=Hd her
     clear hbr hlr her
     by_cases hkl:k=t.tr.length
     case neg =>
      have hke:((k:Int) == (t.tr.length:Int))=false:=beq_eq_false_iff_ne.2 (by omega)
      have HKL:=Hd hkl
      clear hkl
      gi_wp2_with fail
      exact HFIN.out _ HBR.out (by rw [cvMu,if_neg HKL.out];exact HLR.out) HER.out _
     have hke:((k:Int) == (t.tr.length:Int))=true:=beq_iff_eq.2 (by omega)
     have HKL:=Hd hkl
     clear hkl
     gi_wp2_with fail
     obtain ⟨wb,hwb⟩:∃ wb,wr=wb:=⟨_,rfl⟩
     rw [hwb] at HBR HLR HER y20 y21 yb hZW2 ⊢
     clear hwb
     gi_loopw [92] (fun vi wr=>∃ jm:Nat,jm<=t.mu.length∧vi = .int .i64 jm∧Bt Zc W wr∧RBs base wr (qfl s (t.mu.take jm) (qca s t.tr k (qas s t c0 k).l)) (.slice A1 c0.l.length k1)∧RBs base wr (qb8 s t.tr k sts (qas s t c0 k).e) (.slice A2 c0.e.length k2)) (fun vi _=>t.mu.length-(intOf vi).toNat)
     case atStart=>exact ⟨0,Nat.zero_le _,rfl,HBR.out,by rw [List.take_zero];exact HLR.out,HER.out⟩
     case round =>
      obtain ⟨jm,hjm,rfl,hb6,hl6,he6⟩:=hrel
      by_cases hlt6:jm<t.mu.length
      ·have hk6:Kp Z W wr:=hb6.kp fun q _ hq=>(HZD.out q hq).2
       obtain ⟨bm,om,cs6,hA6,hb60,_,hl60,hr60,hc60⟩:=(qaa.good.move HMW.out hk6).get jm hlt6
       obtain rfl:=hA6
       obtain ⟨_,vx6,rfl,hvx6⟩:=id hr60
       obtain ⟨Ax6,cx6,rfl,_,_⟩:=hvx6.val
       have m0:=hc60.get 0 _
       have m1:=hc60.get 1 _
       simp only [Nat.add_zero] at m0
       have z0:=hb6.cell x0 (HZD.out _ hz0).2
       have z10:=hb6.cell x10 (HZD.out _ hz1).2
       have z11:=hb6.cell x11 (HZD.out _ hz1).2
       have hlen6:(qfl s (t.mu.take jm) (qca s t.tr k (qas s t c0 k).l)).length=s.ls.length:=by rw [qlt,qj5];exact HLN.out.1
       have hmk:=fun X (hX:Ext wr X)=>mark_c Z s g t.mu[jm] (qfl s (t.mu.take jm) (qca s t.tr k (qas s t c0 k).l)) base _ (.slice A2 c0.e.length k2) _ X ((HSW.out.move hk6).bel hX) (RLb.good.bel hr60 hX) (hl6.ext qae.good hX) ⟨_,_,_,rfl⟩ hlen6 (by have:=hok.2.2.1;omega)
       have hs6:=hb6.size
       have hq0:w.heap.size<wr.heap.size:=by omega
       have hq1:w.heap.size+1<wr.heap.size:=by omega
       have HB6:=Hd hb6
       have HE6:=Hd he6
       have HL6:=Hd hl6
       clear hb6 hl6 he6 hr60 hc60 hvx6 hl60 hlen6
       gi_wp2_with fail
       refine ⟨trivial,?_⟩
       gi_at_call 174
       refine (CallsIn.inRound l2 (callsIn_wide.2 (hmk _ bel))).mono ?_
       rintro e w7 ⟨rfl,hr7,hb7⟩
       have hx7:Ext wr (wr.alloc (.cells #[.int .i64 t.mu[jm].g,.slice Ax6 t.mu[jm].v.length cx6] 61)):=(Ext.refl wr).alloc _
       have hb7':Bt Zc W w7:=(HB6.out.ext hx7).trans (hb7.mono fun q _ e=>by rw [hZc];exact .inl e)
       have he7:RBs base w7 (qb8 s t.tr k sts (qas s t c0 k).e) (.slice A2 c0.e.length k2):=qfd (HE6.out.ext qae.good hx7) hb7 fun q e e'=>HRC.out.ap q e' e
       have HB7:=Hd hb7'
       have HE7:=Hd he7
       have HR7:=Hd hr7
       clear hb7 hb7' he7 hr7 hmk
       gi_wp2_with fail
       go_roundw
       case rel =>
        refine ⟨jm+1,by omega,by go_num,HB7.out,?_,HE7.out⟩
        rw [List.take_succ_eq_append_getElem hlt6,qrm]
        exact HR7.out
       case measure=>simp [intOf];omega
      ·obtain rfl:jm=t.mu.length:=by omega
       rw [List.take_length] at hl6
       have HB6:=Hd hb6
       have HE6:=Hd he6
       have HL6:=Hd hl6
       clear hb6 hl6 he6
       gi_wp2_with fail
       exact HFIN.out _ HB6.out (by rw [cvMu,if_pos HKL.out];exact HL6.out) HE6.out _
  ·have hkd:1<=k:=by omega
   have hk1:k-1<t.tr.length:=by omega
   obtain ⟨bt,ot,cs,hA,hb,hbZ,hl,hr,hcell⟩:=HTW.out.get (k-1) hk1
   have HAE:=Hd hA
   obtain ⟨ig,vx,rfl,hvx⟩:=id hr
   obtain ⟨Ax,cx,rfl,_,_⟩:=hvx.val
   have t0:=hcell.get 0 _
   have t1:=hcell.get 1 _
   simp only [Nat.add_zero] at t0
   have hki:(k:Int)-1=((k-1:Nat):Int):=by omega
   have HLS:=Hd (show qca s t.tr k (qas s t c0 k).l=qfo s t.tr[k-1] (qas s t c0 k).l from by rw [qca,if_neg (by omega),List.getElem?_eq_getElem hk1])
   have hmk:=fun X (hX:Ext W X)=>mark_c Z s g t.tr[k-1] (qas s t c0 k).l base _ (.slice A2 c0.e.length k2) _ X (HSW.out.bel hX) (RLb.good.bel hr hX) (HRC.out.l.ext qae.good hX) ⟨_,_,_,rfl⟩ HLN.out.1 (by have:=hok.2.2.1;omega)
   obtain ⟨q,hq⟩:∃ q,k-1=q:=⟨_,rfl⟩
   have hq1:0<=(q:Int):=by omega
   have hq2:(q:Int)<(t.tr.length:Int):=by omega
   simp only [hq] at t0 t1 hki hmk HLS
   have y1:IntKind.i64.wrap (q:Int)=(q:Int):=IntWalk.i64_in _ (by omega)
   clear hA hvx hr hl hcell
   gi_wp2_with fail
   refine wpIn_mono (Q:=Exit.then (fun a' w'=>a'={ tmps:=#[.pointer (some ⟨g,0,none⟩),.agg #[.slice A1 c0.l.length k1,.slice A2 c0.e.length k2],.agg #[.slice At t.tr.length ct,.slice Am t.mu.length cm],.pointer (some ⟨w.heap.size,0,none⟩),.pointer (some ⟨w.heap.size+1,0,none⟩),.pointer (some ⟨w.heap.size+2,0,none⟩),.pointer (some ⟨bi,0,none⟩),.slice A3 sts.length c3,undef,undef,undef,undef,undef,undef,undef,.pointer (some ⟨g,0,none⟩),.pointer (some ⟨w.heap.size+2,0,none⟩),.slice At t.tr.length ct,.func (.func 220) #[] #[.pointer (some ⟨w.heap.size+3,0,none⟩),.pointer (some ⟨w.heap.size+4,0,none⟩)],.int .i64 (k:Int),.slice A3 sts.length c3,.slice A3 sts.length c3,.int .i64 (sts.length:Int),.bool false,.int .i64 (k:Int),.bool true,.pointer (some ⟨g,0,none⟩),.agg #[.slice A1 c0.l.length k1,.slice A2 c0.e.length k2],.pointer (some ⟨w.heap.size+2,0,none⟩),.slice At t.tr.length ct,.int .i64 (k:Int),.int .i64 (q:Int),.pointer (some ⟨bt,ot+q*2,none⟩),.agg #[.int .i64 t.tr[q].g,.slice Ax t.tr[q].v.length cx],.tuple #[],undef,undef,undef,undef,undef,undef,undef,undef,undef,undef,undef,undef,undef,undef,undef,undef,undef,undef,undef,undef,undef,undef,undef,undef,undef,undef,undef,undef,undef,undef,undef,undef,undef,undef,undef,undef,undef,undef,undef,undef,undef,undef,undef,undef,undef,undef,undef,undef,undef,undef,undef,undef,undef,undef,undef,undef,undef,undef,undef,undef,undef,undef,undef,undef,undef,undef],defers:=[] }∧RBs base w' (qca s t.tr k (qas s t c0 k).l) (.slice A1 c0.l.length k1)∧Bt (fun q=>(Value.slice A1 c0.l.length k1).ownBlock=some q) W w') (fun _ _ _=>False)) ?reg ?aft
   case reg =>
    obtain rfl:=HAE.out
    refine qot (fun X=>X.cell? ⟨w.heap.size,0,none⟩=some (.pointer (some ⟨g,0,none⟩))∧X.cell? ⟨w.heap.size+1,0,none⟩=some (.slice A1 c0.l.length k1)∧X.cell? ⟨w.heap.size+1,1,none⟩=some (.slice A2 c0.e.length k2)∧X.cell? ⟨w.heap.size+2,0,none⟩=some (.slice (some ⟨bt,ot,none⟩) t.tr.length ct)∧X.cell? ⟨bi,0,none⟩=some (.int .i64 (k:Int))∧X.cell? ⟨bt,ot+q*2,none⟩=some (.int .i64 t.tr[q].g)∧X.cell? ⟨bt,ot+q*2+1,none⟩=some (.slice Ax t.tr[q].v.length cx)) (by kernel_rfl) (by kernel_rfl) (by rintro ⟨_,_,h⟩;exact h) ⟨x0,x10,x11,x20,xb,t0,t1⟩ (fun hHeld=>?_)
    (refine tk 0 ?_;try simp only [qai])
    (refine tk 1 ?_;try simp only [qai])
    (refine tk 2 ?_;try simp only [qai])
    (refine tk 3 ?_;try simp only [qai])
    (refine tk 4 ?_;try simp only [qai])
    (refine tk 5 ?_;try simp only [qai])
    (refine tk 6 ?_;try simp only [qai])
    (refine tk 7 ?_;try simp only [qai])
    refine wpAnyH_ready (rs:=[8]) (by kernel_rfl) (by simp) ?_
    refine AllReadyH.cons rfl (fun K hK=>?_) AllReadyH.nil
    go_simp
    refine (hmk _ (Below.drew (Ext.refl W))).mono ?_
    rintro e w3 ⟨rfl,hr3,hb3⟩
    have hno:∀ q,Z q∨w.heap.size+5<=q->(Value.slice A1 c0.l.length k1).ownBlock≠some q:=fun q hq e=>by
     have h1:Zc q:=by rw [hZc];exact .inl e
     rcases hq with h | h
     ·exact (HZD.out q h).2 h1
     ·have:=hZlt0.out q h1;omega
    refine hK.out _ _ ⟨hb3.cell x0 (hno _ (.inl hz0)),hb3.cell x10 (hno _ (.inl hz1)),hb3.cell x11 (hno _ (.inl hz1)),hb3.cell x20 (hno _ (.inl hz2)),hb3.cell xb (hno _ (.inr (by show _<=bi;omega))),hb3.cell t0 (hno _ (.inl hbZ)),hb3.cell t1 (hno _ (.inl hbZ))⟩ (fun hHeld=>?_)
    refine wpAnyH_done (by kernel_rfl) ?_ _
    exact ⟨rfl,by rw [HLS.out];exact hr3,(Ext.bt (Below.drew (Ext.refl W))).trans hb3⟩
   case aft =>
    rintro e a3 W3 h
    cases e with
    | normal =>
     obtain ⟨rfl,hl3,hb3⟩:=h
     have HL3:=Hd hl3
     have hb3c:Bt Zc W W3:=hb3.mono fun q _ e=>by rw [hZc];exact .inl e
     have HE3:Hid (RBs base W3 (qas s t c0 k).e (.slice A2 c0.e.length k2)):=qfd HRC.out.e hb3 fun q e e'=>HRC.out.ap q e' e
     have HB3w:=Hd hb3c
     clear hl3 hb3 hb3c hmk
     gi_wp2
     gi_loopw [37] (fun vi wr=>∃ i:Nat,i<=sts.length∧vi = .int .i64 i∧Bt Zc W wr∧RBs base wr (qca s t.tr k (qas s t c0 k).l) (.slice A1 c0.l.length k1)∧RBs base wr (qb8 s t.tr k (sts.take i) (qas s t c0 k).e) (.slice A2 c0.e.length k2)) (fun vi _=>sts.length-(intOf vi).toNat)
     case atStart=>exact ⟨0,Nat.zero_le _,rfl,HB3w.out,HL3.out,HE3.out⟩
     case round =>
      obtain ⟨i,hi,rfl,hbr,hlr,her⟩:=hrel
      have hZW2:Kp (fun q=>Z q∨W0.heap.size<=q) W wr:=hbr.kp fun q _ hq hz=>by
       rcases hq with h | h
       ·exact (HZD.out q h).2 hz
       ·have:=hZlt0.out q hz;omega
      by_cases hlt:i<sts.length
      ·have hsr:=(RSl.good qac.good).move ((RSl.good qac.good).mono (HX3.out.sl qac.good (by decide)) (S':=fun q=>Z q∨W0.heap.size<=q) fun q _ h=>.inr (h.resolve_left id)) hZW2
       obtain ⟨b,off,cs,hA,hb,hT,hl,hr,hcell⟩:=hsr.get i hlt
       obtain rfl:=hA
       obtain rfl:=hr.1
       have s0:=(by simpa using hcell.get 0 _:wr.cell? ⟨b,off+i,none⟩=some (.int .i64 sts[i]))
       have y0:=hbr.cell x0 (HZD.out _ hz0).2
       have HBR:=Hd hbr
       have HLR:=Hd hlr
       have HER:=Hd her
       clear hbr hlr her hcell hr hl hT hsr
       gi_wp2_with fail
       refine ⟨trivial,?_⟩
       gi_at_call 175
       refine (CallsIn.inRound l2 (qjg 2 (some ⟨g,0,none⟩) sts[i] wr)).mono ?_
       rintro e w' ⟨rfl,rfl⟩
       gi_wp2_with fail
       obtain ⟨W2,hW2⟩:∃ W2,(wr.alloc (.cells #[.pointer (some ⟨g,0,none⟩)] 111)).alloc (.cells #[.int .i64 sts[i]] 3)=W2:=⟨_,rfl⟩
       have hsz2:W2.heap.size=wr.heap.size+2:=by rw [<- hW2];show (World.heap _).size=_;simp
       have hX2:Ext wr W2:=by rw [<- hW2];exact ((Ext.refl wr).alloc _).alloc _
       have bs2:Boxed W2 wr.heap.size 111 (.pointer (some ⟨g,0,none⟩)):=by rw [<- hW2];exact ((Boxed.new wr 111 _).alloc _)
       have bt2:Boxed W2 (wr.heap.size+1) 3 (.int .i64 sts[i]):=by rw [<- hW2];have:=Boxed.new (wr.alloc (.cells #[.pointer (some ⟨g,0,none⟩)] 111)) 3 (.int .i64 sts[i]);rwa [World.size_alloc] at this
       rw [hW2]
       clear hW2
       obtain ⟨Z',hZ'⟩:∃ Z':Nat->Prop,Z'=fun q=>Z q∨q=wr.heap.size:=⟨_,rfl⟩
       have hwrs:=HBR.out.size
       have hZ'lt:∀ q,Z' q->q<W2.heap.size∧¬ Zc q:=fun q hq=>by
        rw [hZ'] at hq
        rcases hq with h | h
        ·have:=HZD.out q h
         exact ⟨by omega,this.2⟩
        ·exact ⟨by omega,fun hz=>by have:=hZlt0.out q hz;omega⟩
       have hS2:qav Z' W2 g s:=((HSW.out.move (HBR.out.kp fun q _ hq=>(HZD.out q hq).2)).mono (S':=Z') fun q _ h=>by rw [hZ'];exact .inl h).bel hX2
       have hrec2:W2.heap[l2]? = some (.loop r0):=(hX2.block _ (by omega)).trans ((HBR.out.block _ hl2lt (fun hz=>by have:=hZlt0.out _ hz;omega)).trans hrec)
       have hl2r:RBs base W2 (qca s t.tr k (qas s t c0 k).l) (.slice A1 c0.l.length k1):=HLR.out.ext qae.good hX2
       have he2r:RBs base W2 (qb8 s t.tr k (sts.take i) (qas s t c0 k).e) (.slice A2 c0.e.length k2):=HER.out.ext qae.good hX2
       have hbt2:Bt Zc W W2:=HBR.out.ext hX2
       refine wpIn_rangeFunc_ownN (l₀:=l2) rfl hrec2 (by omega) (gf:=234) (lb:=#[.pointer (some ⟨wr.heap.size,0,none⟩),.pointer (some ⟨wr.heap.size+1,0,none⟩)]) rfl trivial (enters_of Tryz.func234 (by kernel_rfl) rfl)
        (SeqStopsK.inRound l2 (qjh (3-1) (by omega) Z' s g wr.heap.size (wr.heap.size+1) sts[i] (by rw [hZ'];exact .inr rfl) W2 hS2 bs2.cell bt2.cell)) kp_t (kp_b fun q hq=>(hZ'lt q hq).1) (Below.refl _ _) (fun _=>rfl)
        (fun pj X=>Bt Zc W2 X∧RBs base X (qca s t.tr k (qas s t c0 k).l) (.slice A1 c0.l.length k1)∧RBs base X (qds s t.tr k pj (qb8 s t.tr k (sts.take i) (qas s t c0 k).e)) (.slice A2 c0.e.length k2)) (fun _ _ _=>False) ?ownI (fun _ _ _ _ _ hs _ _=>hs)
        ⟨Bt.refl _ _,hl2r,he2r⟩
        (fun j a' X=>∃ Bx,W2.heap.size<=Bx∧X.heap[Bx]? = some (.cells #[.int .i64 s.es[j].f,.int .i64 s.es[j].l,.int .i64 s.es[j].t] 88)∧a'={ tmps:=#[.pointer (some ⟨g,0,none⟩),.agg #[.slice A1 c0.l.length k1,.slice A2 c0.e.length k2],.agg #[.slice At t.tr.length ct,.slice Am t.mu.length cm],.pointer (some ⟨w.heap.size,0,none⟩),.pointer (some ⟨w.heap.size+1,0,none⟩),.pointer (some ⟨w.heap.size+2,0,none⟩),.pointer (some ⟨bi,0,none⟩),.slice (some ⟨b,off,none⟩) sts.length c3,undef,.int .i64 sts[i],.int .i64 (j.1:Int),.pointer (some ⟨Bx,0,none⟩),u12,undef,undef,.pointer (some ⟨g,0,none⟩),.pointer (some ⟨w.heap.size+2,0,none⟩),.slice At t.tr.length ct,.func (.func 220) #[] #[.pointer (some ⟨w.heap.size+3,0,none⟩),.pointer (some ⟨w.heap.size+4,0,none⟩)],.int .i64 (k:Int),.slice (some ⟨b,off,none⟩) sts.length c3,.slice (some ⟨b,off,none⟩) sts.length c3,.int .i64 (sts.length:Int),.bool false,.int .i64 (k:Int),.bool true,.pointer (some ⟨g,0,none⟩),.agg #[.slice A1 c0.l.length k1,.slice A2 c0.e.length k2],.pointer (some ⟨w.heap.size+2,0,none⟩),.slice At t.tr.length ct,.int .i64 (k:Int),.int .i64 (q:Int),.pointer (some ⟨bt,ot+q*2,none⟩),.agg #[.int .i64 t.tr[q].g,.slice Ax t.tr[q].v.length cx],.tuple #[],.slice (some ⟨b,off,none⟩) sts.length c3,.int .i64 (sts.length:Int),.int .i64 (i:Int),.bool true,.pointer (some ⟨b,off+i,none⟩),.int .i64 sts[i],.pointer (some ⟨g,0,none⟩),.int .i64 sts[i],.func (.func 234) #[] #[.pointer (some ⟨wr.heap.size,0,none⟩),.pointer (some ⟨wr.heap.size+1,0,none⟩)],.int .i64 (j.1:Int),.agg #[.int .i64 s.es[j].f,.int .i64 s.es[j].l,.int .i64 s.es[j].t],u46,u47,u48,u49,u50,u51,u52,u53,u54,u55,u56,u57,u58,u59,u60,u61,u62,u63,u64,u65,u66,u67,u68,u69,u70,u71,u72,u73,u74,u75,u76,u77,u78,u79,u80,u81,u82,u83,undef,undef,undef,undef,undef,undef,undef,undef,undef,undef,undef,undef,undef,undef,undef,undef,undef],defers:=[] })
        (fun j a' _ X Y row hs hg hr=>by
         obtain ⟨Bx,h1,h2,h3⟩:=hs
         exact ⟨Bx,h1,(hg.block Bx (Array.getElem?_eq_some_iff.1 h2).1 fun e=>by
          obtain ⟨_,o',h4,h5⟩:=hr Bx e.symm
          rw [h2] at h4
          cases h4
          cases h5).trans h2,h3⟩)
        ?asgI ?bodyI ?doneI ?stopI
       case ownI =>
        rintro pj X Y r ⟨h1,h2,h3⟩ hg hr
        exact ⟨qhr _ _ () X Y r h1 hg hr,qle hl2r (Nat.le_refl _) h2 hg fun q e=>(hr q e).1,qle he2r (Nat.le_refl _) h3 hg fun q e=>(hr q e).1⟩
       case asgI =>
        rintro l3 pj j X K hI hK
        unfold qgy
        gi_wp2
        have hx:Ext X (X.alloc (.cells #[.int .i64 s.es[j].f,.int .i64 s.es[j].l,.int .i64 s.es[j].t] 88)):=(Ext.refl X).alloc _
        exact hK _ _ ((KeepsOthers.alloc _ _).from _) (Ext.kp hx) ⟨hI.1.ext hx,hI.2.1.ext qae.good hx,hI.2.2.ext qae.good hx⟩ ⟨X.heap.size,hI.1.size,World.alloc_heap_new X _,rfl⟩
       case bodyI =>
        rintro l3 pj j a' X hl3 _ ⟨hbj,hlj,hej⟩ ⟨Bx,hBx,hbox,rfl⟩ _
        obtain ⟨xi,hxl⟩:=j
        have hed:=(hok.2.2.2.2.2 xi hxl).1
        have hlab:0<=s.es[xi].l∧s.es[xi].l<s.ls.length:=by
         simp only [qbw,isB,Bool.and_eq_true,decide_eq_true_eq] at hed
         omega
        obtain ⟨li,hli⟩:∃ li:Nat,s.es[xi].l=(li:Int):=⟨s.es[xi].l.toNat,by omega⟩
        have hli2:li<s.ls.length:=by omega
        have hkX:Kp Z W X:=(hbt2.trans hbj).kp fun q _ hq=>(HZD.out q hq).2
        have hbX:Bt Zc W X:=hbt2.trans hbj
        obtain ⟨v',u',m',f',h1,h2,h3,h4,h5,h6,h7,h8⟩:=(HSW.out.move hkX).ex
        obtain ⟨bl,ol,cl,csl,rfl,hbl,hSl,hll,hrl,hcl⟩:=h2.at li hli2
        obtain ⟨il,vl,rfl,hvl⟩:=id hrl
        obtain ⟨Al,clv,rfl,_,_⟩:=hvl.val
        have g1:X.cell? ⟨g,1,none⟩=some (.slice (some ⟨bl,ol,none⟩) s.ls.length cl):=cell_of_row X _ 1 _ _ _ h1
        have gl:X.cell? ⟨bl,ol+li*2,none⟩=some (.int .i64 s.ls[li].g):=by simpa using hcl.get 0 _
        have gl1:X.cell? ⟨bl,ol+li*2+1,none⟩=some (.slice Al s.ls[li].v.length clv):=hcl.get 1 _
        have e1:X.cell? ⟨Bx,1,none⟩=some (.int .i64 (li:Int)):=by rw [<- hli];exact cell_of_row X _ 1 _ _ _ hbox
        have y0:=hbX.cell x0 (HZD.out _ hz0).2
        have y11:=hbX.cell x11 (HZD.out _ hz1).2
        have y20:=hbX.cell x20 (HZD.out _ hz2).2
        have yb:=hbX.cell xb (fun hz=>by have h5:=hZlt0.out bi hz;omega)
        have hTX:=qaa.good.move HTW.out hkX
        have HTX:=Hd hTX
        have hrl0:=hrl
        have HXJ:=Hd (And.intro hbj (And.intro hlj hej))
        have hgate:qhj s t.tr k s.es[xi].l=(decide (s.ls[li].g = -1) || (match t.tr[k]? with | some x=>qa0 s.ls[li].g && decide (qan s.ls[li] x=0) | none=>false)):=qgj s _ hli hli2
        have HGT:=Hd hgate
        have hone:qds s t.tr k (pj++[⟨xi,hxl⟩]) (qb8 s t.tr k (sts.take i) (qas s t c0 k).e)=qf0 s t.tr k (qds s t.tr k pj (qb8 s t.tr k (sts.take i) (qas s t c0 k).e)) ⟨xi,hxl⟩:=qqc ..
        obtain ⟨es0,hes0⟩:∃ es0,qds s t.tr k pj (qb8 s t.tr k (sts.take i) (qas s t c0 k).e)=es0:=⟨_,rfl⟩
        have hesl:es0.length=s.es.length:=by rw [<- hes0,qkw,qkv];exact HLN.out.2
        rw [hes0] at hone hej
        obtain ⟨g2,cap2,he2⟩:=(by obtain ⟨news,hrow,_⟩:=hej;exact Joins.ownsRow_form hrow (by omega):∃ g2 cap2,Value.slice A2 c0.e.length k2 = .slice (some ⟨g2,0,none⟩) es0.length cap2)
        injection he2 with he21 he22 he23
        subst he21
        subst he23
        have xil:xi<es0.length:=by omega
        obtain ⟨ub,gc,hub,gf⟩:=qab.get1 hej xi xil
        obtain ⟨bv,rfl⟩:∃ bv,ub = .bool bv:=⟨es0[xi]'xil,by simpa [qae] using hub⟩
        have hnoF:qhj s t.tr k s.es[xi].l=false->∀ w4,Ext X w4->KeepsFrom W2.heap.size X w4∧Kp Z' X w4∧Bt Zc W2 w4∧RBs base w4 (qca s t.tr k (qas s t c0 k).l) (.slice A1 c0.l.length k1)∧RBs base w4 (qds s t.tr k (pj++[⟨xi,hxl⟩]) (qb8 s t.tr k (sts.take i) (qas s t c0 k).e)) (.slice (some ⟨g2,0,none⟩) c0.e.length k2):=fun hh w4 h4=>by
         refine ⟨qeq h4 _,Ext.kp h4,hbj.ext h4,hlj.ext qae.good h4,?_⟩
         rw [hone,qf0,if_neg (by rw [show s.es[(⟨xi,hxl⟩:Fin s.es.length)]=s.es[xi] from rfl,hh];decide)]
         exact hej.ext qae.good h4
        have hyesF:qhj s t.tr k s.es[xi].l=true->∀ w4,Ext X w4->KeepsFrom W2.heap.size X (w4.setCell ⟨g2,xi,none⟩ (.bool true))∧Kp Z' X (w4.setCell ⟨g2,xi,none⟩ (.bool true))∧Bt Zc W2 (w4.setCell ⟨g2,xi,none⟩ (.bool true))∧RBs base (w4.setCell ⟨g2,xi,none⟩ (.bool true)) (qca s t.tr k (qas s t c0 k).l) (.slice A1 c0.l.length k1)∧RBs base (w4.setCell ⟨g2,xi,none⟩ (.bool true)) (qds s t.tr k (pj++[⟨xi,hxl⟩]) (qb8 s t.tr k (sts.take i) (qas s t c0 k).e)) (.slice (some ⟨g2,0,none⟩) c0.e.length k2):=fun hh w4 h4=>by
         have hzg:Zc g2:=by rw [hZc];exact .inr rfl
         have hbs:Bt Zc X (w4.setCell ⟨g2,xi,none⟩ (.bool true)):=Bt.set (p:=⟨g2,xi,none⟩) h4.bt (.inr hzg) _
         refine ⟨qj1 hbs _ fun q o hn hz _=>by have:=hZlt0.out q hz;omega,hbs.kp fun q _ hq=>(hZ'lt q hq).2,hbj.trans hbs,?_,?_⟩
         ·refine qfd (hlj.ext qae.good h4) (Bt.set (Z:=fun q=>q=g2) (p:=⟨g2,xi,none⟩) (Bt.refl _ w4) (.inr rfl) (.bool true)) fun q e e'=>?_
          subst e'
          exact HRC.out.ap q e rfl
         ·rw [hone,qf0,if_pos (by rw [show s.es[(⟨xi,hxl⟩:Fin s.es.length)]=s.es[xi] from rfl,hh])]
          exact qab.put1 qae.good (hej.ext qae.good h4) he22 xi (.bool true) true (by omega) rfl
        have HNF:=Hd hnoF
        have HYF:=Hd hyesF
        have HN2:=Hd he22
        have hxlc:xi<c0.e.length:=by omega
        have hz1':(0:Int)<=(li:Int):=by omega
        have hz2':(li:Int)<(s.ls.length:Int):=by omega
        have HRL:=Hd hrl
        have HLI:=Hd hli
        clear he22
        clear hnoF hyesF hgate hone hub hesl hes0 hli hbj hlj hej h1 h2 h3 h6 h7 h8 hrl hrl0 hcl hvl hed hbox hll hTX
        gi_wp2_with fail
        refine wpIn_mono (Q:=Exit.then (fun a' w'=>a'={ tmps:=#[.pointer (some ⟨g,0,none⟩),.agg #[.slice A1 c0.l.length k1,.slice (some ⟨g2,0,none⟩) c0.e.length k2],.agg #[.slice At t.tr.length ct,.slice Am t.mu.length cm],.pointer (some ⟨w.heap.size,0,none⟩),.pointer (some ⟨w.heap.size+1,0,none⟩),.pointer (some ⟨w.heap.size+2,0,none⟩),.pointer (some ⟨bi,0,none⟩),.slice (some ⟨b,off,none⟩) sts.length c3,undef,.int .i64 sts[i],.int .i64 (xi:Int),.pointer (some ⟨Bx,0,none⟩),.pointer (some ⟨X.heap.size,0,none⟩),undef,undef,.pointer (some ⟨g,0,none⟩),.pointer (some ⟨w.heap.size+2,0,none⟩),.slice At t.tr.length ct,.func (.func 220) #[] #[.pointer (some ⟨w.heap.size+3,0,none⟩),.pointer (some ⟨w.heap.size+4,0,none⟩)],.int .i64 (k:Int),.slice (some ⟨b,off,none⟩) sts.length c3,.slice (some ⟨b,off,none⟩) sts.length c3,.int .i64 (sts.length:Int),.bool false,.int .i64 (k:Int),.bool true,.pointer (some ⟨g,0,none⟩),.agg #[.slice A1 c0.l.length k1,.slice (some ⟨g2,0,none⟩) c0.e.length k2],.pointer (some ⟨w.heap.size+2,0,none⟩),.slice At t.tr.length ct,.int .i64 (k:Int),.int .i64 (q:Int),.pointer (some ⟨bt,ot+q*2,none⟩),.agg #[.int .i64 t.tr[q].g,.slice Ax t.tr[q].v.length cx],.tuple #[],.slice (some ⟨b,off,none⟩) sts.length c3,.int .i64 (sts.length:Int),.int .i64 (i:Int),.bool true,.pointer (some ⟨b,off+i,none⟩),.int .i64 sts[i],.pointer (some ⟨g,0,none⟩),.int .i64 sts[i],.func (.func 234) #[] #[.pointer (some ⟨wr.heap.size,0,none⟩),.pointer (some ⟨wr.heap.size+1,0,none⟩)],.int .i64 (xi:Int),.agg #[.int .i64 s.es[xi].f,.int .i64 s.es[xi].l,.int .i64 s.es[xi].t],.pointer (some ⟨g,0,none⟩),.pointer (some ⟨g,0,none⟩),.pointer (some ⟨g,0,none⟩),.pointer (some ⟨g,1,none⟩),.slice (some ⟨bl,ol,none⟩) s.ls.length cl,.pointer (some ⟨Bx,1,none⟩),.int .i64 (li:Int),.pointer (some ⟨bl,ol+li*2,none⟩),.agg #[.int .i64 s.ls[li].g,.slice Al s.ls[li].v.length clv],u55,u56,u57,u58,u59,u60,u61,u62,u63,u64,u65,u66,u67,u68,u69,u70,u71,u72,u73,u74,u75,u76,u77,u78,u79,u80,u81,u82,u83,undef,undef,undef,undef,undef,undef,undef,undef,undef,undef,undef,undef,undef,undef,undef,undef,undef],defers:=[] }∧w'=(X.alloc (.cells #[.int .i64 s.ls[li].g,.slice Al s.ls[li].v.length clv] 61)).drew) (fun _ _ _=>False)) ?reg13 ?aft13
        case reg13 =>
         refine qot (l:=l3) (fun Y=>Y.cell? ⟨w.heap.size,0,none⟩=some (.pointer (some ⟨g,0,none⟩))∧Y.cell? ⟨g,1,none⟩=some (.slice (some ⟨bl,ol,none⟩) s.ls.length cl)∧Y.cell? ⟨Bx,1,none⟩=some (.int .i64 (li:Int))∧Y.cell? ⟨bl,ol+li*2,none⟩=some (.int .i64 s.ls[li].g)∧Y.cell? ⟨bl,ol+li*2+1,none⟩=some (.slice Al s.ls[li].v.length clv)) (by kernel_rfl) (by kernel_rfl) (by rintro ⟨_,_,h⟩;exact h) ⟨y0,g1,e1,gl,gl1⟩ (fun hHeld=>?_)
         (refine tk 0 ?_;try simp only [qai])
         (refine tk 1 ?_;try simp only [qai])
         (refine tk 2 ?_;try simp only [qai])
         (refine tk 3 ?_;try simp only [qai])
         (refine tk 4 ?_;try simp only [qai])
         (refine tk 5 ?_;try simp only [qai])
         (refine tk 6 ?_;try simp only [qai])
         (refine tk 7 ?_;try simp only [qai])
         (refine tk 8 ?_;try simp only [qai])
         refine wpAnyH_ready (rs:=[9]) (by kernel_rfl) (by simp) ?_
         refine AllReadyH.cons rfl (fun K hK=>?_) AllReadyH.nil
         go_simp
         have hk1:Ext X (X.alloc (.cells #[.int .i64 0,.slice none 0 0] 61)).drew:=Below.drew ((Ext.refl X).alloc _)
         refine hK.out _ _ ⟨Ext.keep hk1 y0,Ext.keep hk1 g1,Ext.keep hk1 e1,Ext.keep hk1 gl,Ext.keep hk1 gl1⟩ (fun hHeld2=>?_)
         refine wpAnyH_ready (rs:=[10]) (by kernel_rfl) (by simp) ?_
         refine AllReadyH.cons rfl (fun K2 hK2=>?_) AllReadyH.nil
         go_simp
         have hk2:Ext X (X.alloc (.cells #[.int .i64 s.ls[li].g,.slice Al s.ls[li].v.length clv] 61)).drew:=Below.drew ((Ext.refl X).alloc _)
         refine hK2.out _ _ ⟨Ext.keep hk2 y0,Ext.keep hk2 g1,Ext.keep hk2 e1,Ext.keep hk2 gl,Ext.keep hk2 gl1⟩ (fun hHeld3=>?_)
         refine wpAnyH_done (by kernel_rfl) ?_ _
         exact ⟨rfl,rfl⟩
        case aft13 =>
         rintro e a4 W4 h
         cases e with
         | normal =>
          obtain ⟨rfl,rfl⟩:=h
          have hk2:Ext X (X.alloc (.cells #[.int .i64 s.ls[li].g,.slice Al s.ls[li].v.length clv] 61)).drew:=Below.drew ((Ext.refl X).alloc _)
          have z0:(X.alloc (.cells #[.int .i64 s.ls[li].g,.slice Al s.ls[li].v.length clv] 61)).drew.cell? ⟨X.heap.size,0,none⟩=some (.int .i64 s.ls[li].g):=by go_simp
          have z1:(X.alloc (.cells #[.int .i64 s.ls[li].g,.slice Al s.ls[li].v.length clv] 61)).drew.cell? ⟨X.heap.size,1,none⟩=some (.slice Al s.ls[li].v.length clv):=by go_simp
          obtain ⟨Xa,hXa⟩:∃ Xa,(X.alloc (.cells #[.int .i64 s.ls[li].g,.slice Al s.ls[li].v.length clv] 61)).drew=Xa:=⟨_,rfl⟩
          rw [hXa] at hk2 z0 z1 ⊢
          clear hXa g1 gl gl1 e1
          have y0:=Ext.keep hk2 y0
          have y11:=Ext.keep hk2 y11
          have y20:=Ext.keep hk2 y20
          have yb:=Ext.keep hk2 yb
          have hvis:=fun Y=>qih s.ls[li].g (.slice Al s.ls[li].v.length clv) (qak Xa Y)
          by_cases hg1:s.ls[li].g = -1
          ·have hb1:(s.ls[li].g == -1)=true:=beq_iff_eq.2 hg1
           have HG1:=Hd hg1
           clear hg1 hvis
           gi_wp2_with fail
           (refine qcy (by kernel_rfl) (by kernel_rfl) (by kernel_rfl) ?_;(repeat (first | go_big_quiet_step ((fail)) | quiet_step ((fail))));refine wpQuiet_nil ?_)
           intro w4 hx4
           have hx5:=hk2.trans' hx4
           have y11:=Ext.keep hx4 y11
           have gc4:=Ext.keep hx5 gc
           have gf4:=qc6 hx5 (World.block_lt_of_cell? X _ gc) gf
           gi_wp2
           exact HYF.out (by rw [HGT.out];rw [decide_eq_true HG1.out];rfl) w4 hx5
          have hb1:(s.ls[li].g == -1)=false:=beq_eq_false_iff_ne.2 hg1
          have HG1:=Hd hg1
          clear hg1
          by_cases hkl:k<t.tr.length
          case neg =>
           have hkl':decide ((k:Int)<(t.tr.length:Int))=false:=decide_eq_false (by omega)
           gi_wp2_with fail
           (refine qcy (by kernel_rfl) (by kernel_rfl) (by kernel_rfl) ?_;(repeat (first | go_big_quiet_step ((fail)) | quiet_step ((fail))));refine wpQuiet_nil ?_)
           intro w4 hx4
           gi_wp2
           exact HNF.out (by rw [HGT.out];rw [decide_eq_false HG1.out,List.getElem?_eq_none (by omega)];rfl) w4 (hk2.trans' hx4)
          have hkl':decide ((k:Int)<(t.tr.length:Int))=true:=decide_eq_true (by omega)
          have HKL:=Hd (List.getElem?_eq_getElem hkl)
          by_cases hvb:qa0 s.ls[li].g=true
          case neg =>
           have hv:∀ Y,Calls Tryz.prog 176 #[.agg #[.int .i64 s.ls[li].g,.slice Al s.ls[li].v.length clv]] (qak Xa Y) fun e w'=>e = .returned (.bool false)∧Ext (qak Xa Y) w':=fun Y=>by have:=hvis Y;rwa [eq_false_of_ne_true hvb] at this
           have HVB:=Hd (eq_false_of_ne_true hvb)
           clear hvis hvb
           gi_wp2_with fail
           (refine qcy (by kernel_rfl) (by kernel_rfl) (by kernel_rfl) ?_;(repeat (first | go_big_quiet_step ((go_at_call 176;exact qbe (hv _))) | quiet_step ((go_at_call 176;exact qbe (hv _)))));refine wpQuiet_nil ?_)
           intro w4 hx4
           gi_wp2
           exact HNF.out (by rw [HGT.out];rw [decide_eq_false HG1.out,HKL.out];simp only [HVB.out];rfl) w4 (hk2.trans' hx4)
          have hv:∀ Y,Calls Tryz.prog 176 #[.agg #[.int .i64 s.ls[li].g,.slice Al s.ls[li].v.length clv]] (qak Xa Y) fun e w'=>e = .returned (.bool true)∧Ext (qak Xa Y) w':=fun Y=>by have:=hvis Y;rwa [hvb] at this
          have HVB:=Hd hvb
          clear hvis hvb
          have hTa:=qaa.good.bel HTX.out hk2
          obtain ⟨bq,oq,cq,hA,hbq,_,hlq,hrq,hcq⟩:=hTa.get k hkl
          obtain rfl:=hA
          obtain ⟨_,vq,rfl,hvq⟩:=id hrq
          obtain ⟨Aq,cvq,rfl,_,_⟩:=hvq.val
          have t0:=hcq.get 0 _
          have t1:=hcq.get 1 _
          simp only [Nat.add_zero] at t0
          have hcmp:=fun Y=>qhu _ s.ls[li] t.tr[k] _ _ (qak Xa Y) (RLb.good.bel HRL.out (hk2.trans' (qa5 Xa Y))) (RLb.good.bel hrq (qa5 Xa Y))
          clear hTa hlq hrq hcq hvq
          by_cases hcz:qan s.ls[li] t.tr[k]=0
          case neg =>
           have hb2:(qan s.ls[li] t.tr[k] == 0)=false:=beq_eq_false_iff_ne.2 hcz
           have HCZ:=Hd hcz
           clear hcz
           gi_wp2_with fail
           (refine qcy (by kernel_rfl) (by kernel_rfl) (by kernel_rfl) ?_;(repeat (first | go_big_quiet_step ((first | (go_at_call 176;exact qbe (hv _)) | (go_at_call 166;exact qap (hcmp _)))) | quiet_step ((first | (go_at_call 176;exact qbe (hv _)) | (go_at_call 166;exact qap (hcmp _))))));refine wpQuiet_nil ?_)
           intro w4 hx4
           gi_wp2
           exact HNF.out (by rw [HGT.out];rw [decide_eq_false HG1.out,HKL.out];simp only [HVB.out,decide_eq_false HCZ.out];rfl) w4 (hk2.trans' hx4)
          have hb2:(qan s.ls[li] t.tr[k] == 0)=true:=beq_iff_eq.2 hcz
          have HCZ:=Hd hcz
          clear hcz
          gi_wp2_with fail
          (refine qcy (by kernel_rfl) (by kernel_rfl) (by kernel_rfl) ?_;(repeat (first | go_big_quiet_step ((first | (go_at_call 176;exact qbe (hv _)) | (go_at_call 166;exact qap (hcmp _)))) | quiet_step ((first | (go_at_call 176;exact qbe (hv _)) | (go_at_call 166;exact qap (hcmp _))))));refine wpQuiet_nil ?_)
          intro w4 hx4
          have hx5:=hk2.trans' hx4
          have y11:=Ext.keep hx4 y11
          have gc4:=Ext.keep hx5 gc
          have gf4:=qc6 hx5 (World.block_lt_of_cell? X _ gc) gf
          gi_wp2
          exact HYF.out (by rw [HGT.out];rw [decide_eq_false HG1.out,HKL.out];simp only [HVB.out,decide_eq_true HCZ.out];rfl) w4 hx5
         | _=>exact h.elim
       case doneI =>
        rintro ys X rfl ⟨h1,h2,h3⟩
        have HX1:=Hd h1
        have HX2:=Hd h2
        have HX3':=Hd h3
        clear h1 h2 h3
        gi_wp2_with fail
        go_roundw
        case rel =>
         refine ⟨i+1,by omega,by go_num,hbt2.trans HX1.out,HX2.out,?_⟩
         rw [List.take_succ_eq_append_getElem hlt,qrq]
         exact HX3'.out
        case measure=>simp [intOf];omega
       case stopI =>
        rintro c pj X _ h _
        exact h.elim
      ·obtain rfl:i=sts.length:=by omega
       rw [List.take_length] at her
       have y20:=hbr.cell x20 (HZD.out _ hz2).2
       have y21:=hbr.cell x21 (HZD.out _ hz2).2
       have yb:=hbr.cell xb (fun hz=>by have h5:=hZlt0.out bi hz;omega)
       have HBR:=Hd hbr
       have HLR:=Hd hlr
       have HER:=Hd her
       clear hbr hlr her
       by_cases hkl:k=t.tr.length
       case neg =>
        have hke:((k:Int) == (t.tr.length:Int))=false:=beq_eq_false_iff_ne.2 (by omega)
        have HKL:=Hd hkl
        clear hkl
        gi_wp2_with fail
        exact HFIN.out _ HBR.out (by rw [cvMu,if_neg HKL.out];exact HLR.out) HER.out _
       have hke:((k:Int) == (t.tr.length:Int))=true:=beq_iff_eq.2 (by omega)
       have HKL:=Hd hkl
       clear hkl
       gi_wp2_with fail
       obtain ⟨wb,hwb⟩:∃ wb,wr=wb:=⟨_,rfl⟩
       rw [hwb] at HBR HLR HER y20 y21 yb hZW2 ⊢
       clear hwb
       gi_loopw [92] (fun vi wr=>∃ jm:Nat,jm<=t.mu.length∧vi = .int .i64 jm∧Bt Zc W wr∧RBs base wr (qfl s (t.mu.take jm) (qca s t.tr k (qas s t c0 k).l)) (.slice A1 c0.l.length k1)∧RBs base wr (qb8 s t.tr k sts (qas s t c0 k).e) (.slice A2 c0.e.length k2)) (fun vi _=>t.mu.length-(intOf vi).toNat)
       case atStart=>exact ⟨0,Nat.zero_le _,rfl,HBR.out,by rw [List.take_zero];exact HLR.out,HER.out⟩
       case round =>
        obtain ⟨jm,hjm,rfl,hb6,hl6,he6⟩:=hrel
        by_cases hlt6:jm<t.mu.length
        ·have hk6:Kp Z W wr:=hb6.kp fun q _ hq=>(HZD.out q hq).2
         obtain ⟨bm,om,cs6,hA6,hb60,_,hl60,hr60,hc60⟩:=(qaa.good.move HMW.out hk6).get jm hlt6
         obtain rfl:=hA6
         obtain ⟨_,vx6,rfl,hvx6⟩:=id hr60
         obtain ⟨Ax6,cx6,rfl,_,_⟩:=hvx6.val
         have m0:=hc60.get 0 _
         have m1:=hc60.get 1 _
         simp only [Nat.add_zero] at m0
         have z0:=hb6.cell x0 (HZD.out _ hz0).2
         have z10:=hb6.cell x10 (HZD.out _ hz1).2
         have z11:=hb6.cell x11 (HZD.out _ hz1).2
         have hlen6:(qfl s (t.mu.take jm) (qca s t.tr k (qas s t c0 k).l)).length=s.ls.length:=by rw [qlt,qj5];exact HLN.out.1
         have hmk:=fun X (hX:Ext wr X)=>mark_c Z s g t.mu[jm] (qfl s (t.mu.take jm) (qca s t.tr k (qas s t c0 k).l)) base _ (.slice A2 c0.e.length k2) _ X ((HSW.out.move hk6).bel hX) (RLb.good.bel hr60 hX) (hl6.ext qae.good hX) ⟨_,_,_,rfl⟩ hlen6 (by have:=hok.2.2.1;omega)
         have hs6:=hb6.size
         have hq0:w.heap.size<wr.heap.size:=by omega
         have hq1:w.heap.size+1<wr.heap.size:=by omega
         have HB6:=Hd hb6
         have HE6:=Hd he6
         have HL6:=Hd hl6
         clear hb6 hl6 he6 hr60 hc60 hvx6 hl60 hlen6
         gi_wp2_with fail
         refine ⟨trivial,?_⟩
         gi_at_call 174
         refine (CallsIn.inRound l2 (callsIn_wide.2 (hmk _ bel))).mono ?_
         rintro e w7 ⟨rfl,hr7,hb7⟩
         have hx7:Ext wr (wr.alloc (.cells #[.int .i64 t.mu[jm].g,.slice Ax6 t.mu[jm].v.length cx6] 61)):=(Ext.refl wr).alloc _
         have hb7':Bt Zc W w7:=(HB6.out.ext hx7).trans (hb7.mono fun q _ e=>by rw [hZc];exact .inl e)
         have he7:RBs base w7 (qb8 s t.tr k sts (qas s t c0 k).e) (.slice A2 c0.e.length k2):=qfd (HE6.out.ext qae.good hx7) hb7 fun q e e'=>HRC.out.ap q e' e
         have HB7:=Hd hb7'
         have HE7:=Hd he7
         have HR7:=Hd hr7
         clear hb7 hb7' he7 hr7 hmk
         gi_wp2_with fail
         go_roundw
         case rel =>
          refine ⟨jm+1,by omega,by go_num,HB7.out,?_,HE7.out⟩
          rw [List.take_succ_eq_append_getElem hlt6,qrm]
          exact HR7.out
         case measure=>simp [intOf];omega
        ·obtain rfl:jm=t.mu.length:=by omega
         rw [List.take_length] at hl6
         have HB6:=Hd hb6
         have HE6:=Hd he6
         have HL6:=Hd hl6
         clear hb6 hl6 he6
         gi_wp2_with fail
         exact HFIN.out _ HB6.out (by rw [cvMu,if_pos HKL.out];exact HL6.out) HE6.out _
    | _=>exact h.elim
 case done =>
  rintro D ys W hD hys ⟨h0,h1,h2,h3⟩ hD0
  rw [hys] at h2 h3
  have hf:qas s t c0 (t.tr.length+1)=qd8 s t c0:=by rw [<- h3.out,show t.tr.length+1-(t.tr.length+1)=0 from by omega,cvGo]
  rw [hf] at h2
  have HD:=Hd hD0
  have HR2:=Hd h2
  have HB2:=Hd h1
  clear hD0 h2 h1 h3 hf
  gi_wp2
  have hM:Marks W0.heap.size [{ target:=.collected D,args:=#[] }] W:=(Marks.nil W0.heap.size W0).cons hD (by omega) HD.out (fun r h1 h2=>(HB2.out.block r h1 (fun hz=>by
   rw [hZc] at hz
   rcases hz with e | e
   ·exact HR0.out.l.not_def h2 e
   ·exact HR0.out.e.not_def h2 e)).trans h2)
  refine Marks.leave (by simp) hM fun w3 hb3=>?_
  refine ⟨_,results_none rfl _ _ _,rfl,HR2.out.keep hb3 fun q hq e=>?_,?_⟩
  ·have:=hZlt0.out q (by rw [hZc];exact hq)
   have:=e.1
   omega
  ·rw [<- hZc]
   exact (hX0.bt.trans HB2.out).tail hb3 fun i hi=>by have:=hi.1;omega
 case stop =>
  rintro D c pre W hD _ ⟨rfl,h1,h2⟩ hD0
  have HD:=Hd hD0
  have HR2:=Hd h2
  have HB2:=Hd h1
  clear hD0 h2 h1
  gi_wp2
  have hM:Marks W0.heap.size [{ target:=.collected D,args:=#[] }] W:=(Marks.nil W0.heap.size W0).cons hD (by omega) HD.out (fun r h1 h2=>(HB2.out.block r h1 (fun hz=>by
   rw [hZc] at hz
   rcases hz with e | e
   ·exact HR0.out.l.not_def h2 e
   ·exact HR0.out.e.not_def h2 e)).trans h2)
  refine Marks.leave (by simp) hM fun w3 hb3=>?_
  refine ⟨_,results_none rfl _ _ _,rfl,HR2.out.keep hb3 fun q hq e=>?_,?_⟩
  ·have:=hZlt0.out q (by rw [hZc];exact hq)
   have:=e.1
   omega
  ·rw [<- hZc]
   exact (hX0.bt.trans HB2.out).tail hb3 fun i hi=>by have:=hi.1;omega
end
end Go.Proofs.YtegenalcheooeaaGreat
