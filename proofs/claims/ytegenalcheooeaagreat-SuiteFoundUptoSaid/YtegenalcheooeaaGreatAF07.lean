/- Of the proof of a law of the suites: LMut2. -/
import Derived.Test.YtegenalcheooeaaGreatAF06
import Derived.Test.YtegenalcheooeaaGreatB21
set_option linter.unusedSectionVars false
set_option linter.unusedSimpArgs false
set_option linter.unusedVariables false
namespace Go.Proofs.YtegenalcheooeaaGreat
open Go.RowKit
attribute [local go_sem] cell?_exto
section
open Go.Shelf
theorem info106b:(Tryz.prog.info? 106).map (fun i=>(i.zero,i.size,i.bytes))=some (some (.agg #[.int .i64 0,.int .i64 0,.slice none 0 0,.int .i64 0]),4,48):=by kernel_rfl
theorem qnw {S:Nat->Prop} {W:World} {x:Lb} {v:Value} (h:RLb S W x [.int .i64 x.g,v]):I64 x.g∧qam S W x.v [v]:=by
 obtain ⟨j,u,e,hu⟩:=h
 simp only [List.cons.injEq,and_true,true_and] at e
 exact ⟨j,e ▸ hu⟩
theorem qq2 {fn:Func} {p q r:Tmp} (h:fn.results = #[.cell p 25,.tmp q,.tmp r]) (tmps:Array Value) (w:World) (g:Nat) (x y z u v:Value) (hp:tmps.getD p undef = .pointer (some ⟨g,0,none⟩)) (hq:tmps.getD q undef=u) (hr:tmps.getD r undef=v) (h0:w.cell? ⟨g,0,none⟩=some x) (h1:w.cell? ⟨g,1,none⟩=some y) (h2:w.cell? ⟨g,2,none⟩=some z) :
  (results fn tmps).run Tryz.prog w = .ok (.tuple #[.agg #[x,y,z],u,v]) w:=by
 have hp':tmps[p]?.getD undef = .pointer (some ⟨g,0,none⟩):=by simpa using hp
 have hq':tmps[q]?.getD undef=u:=by simpa using hq
 have hr':tmps[r]?.getD undef=v:=by simpa using hr
 simp [results,h,hp',hq',hr',asAddr,go_sem,h0,h1,h2]
def quj (s:Sy) (m:Mu) (w:World) (e:Ending) (w':World):Prop:=∃ cs,e = .returned (.tuple #[.agg cs.toArray,.bool true,.int .i64 0])∧RSy (fun b=>w.heap.size<=b) w' (qci s m) cs∧Ext w w'
set_option maxHeartbeats 4000000 in
set_option maxRecDepth 100000 in
theorem qpr (S:Nat->Prop) (s:Sy) (hok:qag s) (hsm:qer s) (h16:s.ls.length<=16) (m:Mu) (hm:qcv s m) (cs cm:List Value) (w:World) (hx:RSy S w s cs) (hmu:RMu S w m cm) :
  Calls Tryz.prog 124 #[.agg cs.toArray,.agg cm.toArray] w (quj s m w):=by
 have hx2:RSy (fun q=>q<w.heap.size) w s cs:=RSy.good.mono hx fun b hb _=>hb
 have hbu:=fun v W h=>buildMu_c (fun _=>True) s hok hsm h16 m hm v W h
 obtain ⟨jn,vl,ve,rfl,hvl,hve⟩:=id hx2
 obtain ⟨Al,cl,rfl,_,_⟩:=hvl.val
 obtain ⟨Ae,ce,rfl,_,_⟩:=hve.val
 obtain ⟨jk,je,jt,jl,rfl⟩:=hmu
 have HL:=Hd hvl
 have HE:=Hd hve
 have HBU:=Hd hbu
 have HOK:=Hd hok
 have HM:=Hd hm
 have hel:=hok.2.2.2.1
 clear hx hx2 hvl hve hbu
 obtain ⟨W0,hW0⟩:∃ W0,((w.alloc (.cells #[.int .i64 s.n,.slice Al s.ls.length cl,.slice Ae s.es.length ce] 25)).alloc (.cells #[.int .i64 m.k,.int .i64 m.e,.int .i64 m.t,.int .i64 m.l] 94)).alloc (.cells #[.int .i64 0,.slice none 0 0,.slice none 0 0] 25)=W0:=⟨_,rfl⟩
 have hX0:Ext w W0:=by rw [<- hW0];exact (((Ext.refl w).alloc _).alloc _).alloc _
 have hs0:W0.heap.size=w.heap.size+3:=by rw [<- hW0];simp
 have hb0:qaf W0 w.heap.size 25 [.int .i64 s.n,.slice Al s.ls.length cl,.slice Ae s.es.length ce]:=by
  rw [<- hW0]
  exact ((qaf.new w _ _).ext ((Ext.refl _).alloc _)).ext ((Ext.refl _).alloc _)
 have hb1:qaf W0 (w.heap.size+1) 94 [.int .i64 m.k,.int .i64 m.e,.int .i64 m.t,.int .i64 m.l]:=by rw [<- hW0];exact qgx ..
 have hb2:qaf W0 (w.heap.size+1+1) 25 [.int .i64 0,.slice none 0 0,.slice none 0 0]:=by rw [<- hW0];exact qgo ..
 have HW0:=Hd hW0
 have HB0:=Hd hb0
 have HB1:=Hd hb1
 have HB2:=Hd hb2
 have HX0:=Hd hX0
 clear hW0 hb0 hb1 hb2 hX0
 go_enter Tryz.func124,Tryz.ntmps124
 go_upto_region 1 with (fail)
 rw [HW0.out]
 obtain ⟨B1,hB1⟩:∃ B,w.heap.size+1=B:=⟨_,rfl⟩
 rw [hB1] at HB1 HB2
 obtain ⟨B2,hB2⟩:∃ B,B1+1=B:=⟨_,rfl⟩
 rw [hB1,hB2]
 rw [hB2] at HB2
 have HN:Hid (B1=w.heap.size+1∧B2=w.heap.size+2∧W0.heap.size=w.heap.size+3):=⟨by omega,by omega,hs0⟩
 clear HW0 hB1 hB2 hs0
 have a0:=HB0.out.cell 0 _
 have a1:=HB0.out.cell 1 _
 have a2:=HB0.out.cell 2 _
 have az:=HB0.out.lt
 have m0:=HB1.out.cell 0 _
 have m1:=HB1.out.cell 1 _
 have m2:=HB1.out.cell 2 _
 have m3:=HB1.out.cell 3 _
 have mz:=HB1.out.lt
 have q1:=HM.out.1.1
 have q2:=HM.out.1.2
 have hcom:(1<=m.k∧m.k<=3)∧(0<=m.t∧m.t<s.n)∧(0<=m.l∧m.l<max (s.ls.length:Int) 1):=by
  have:=HOK.out.1
  rcases HM.out.2 with ⟨e1,e2,e3⟩ | ⟨e1,⟨e2,e2'⟩,e3⟩ | ⟨e1,e2,e3,e3'⟩ <;> omega
 obtain ⟨⟨q3,q4⟩,⟨q5,q6⟩,q7,q8⟩:=hcom
 have q3':¬ m.k<1:=by omega
 have q4':¬ 3<m.k:=by omega
 have q5':¬ m.t<0:=by omega
 have q6':¬ s.n<=m.t:=by omega
 have q7':¬ m.l<0:=by omega
 have q8':¬ max (s.ls.length:Int) 1<=m.l:=by omega
 clear q3 q4 q5 q6 q7 q8
 go_cut [7] (fun v7 wx=>v7 = .bool true∧wx=W0)
 case first =>
  rcases HM.out.2 with ⟨e1,e2,e3⟩ | ⟨e1,_,e3⟩ | ⟨e1,e2,_,_⟩
  ·have r1:(m.k == 2)=false:=beq_eq_false_iff_ne.2 (by omega)
   have r2:(m.k == 3)=false:=beq_eq_false_iff_ne.2 (by omega)
   have r3:(m.t == 0)=true:=beq_iff_eq.2 e2
   have r4:(m.l == 0)=true:=beq_iff_eq.2 e3
   clear e1 e2 e3
   go_wp2_with fail
   go_meet
   exact ⟨rfl,rfl⟩
  ·have r1:(m.k == 2)=true:=beq_iff_eq.2 e1
   have r2:(m.k == 3)=false:=beq_eq_false_iff_ne.2 (by omega)
   have r4:(m.l == 0)=true:=beq_iff_eq.2 e3
   clear e1 e3
   go_wp2_with fail
   go_meet
   exact ⟨rfl,rfl⟩
  ·have r1:(m.k == 2)=false:=beq_eq_false_iff_ne.2 (by omega)
   have r2:(m.k == 3)=true:=beq_iff_eq.2 e1
   have r3:(m.t == 0)=true:=beq_iff_eq.2 e2
   clear e1 e2
   go_wp2_with fail
   go_meet
   exact ⟨rfl,rfl⟩
 case rest =>
 rename World=>Wx
 obtain ⟨rfl,hwx⟩:=hcut
 subst hwx
 go_upto_region 2 with (fail)
 go_cut [82] (fun v82 wx=>v82 = .bool false∧wx=Wx)
 case first =>
  go_wp2_with fail
  go_meet
  exact ⟨rfl,rfl⟩
 case rest =>
 rename World=>Wy
 obtain ⟨rfl,hwy⟩:=hcut
 subst hwy
 clear q3' q4' q5' q6' q7' q8'
 go_wp2_with fail
 go_loopw [8,87] (fun v8 v87 wr=>∃ (k:Nat) (Ao:Option Addr) (co:Nat),k<=s.es.length∧v87 = .int .i64 k∧v8 = .slice Ao (muP s m k).length co∧Ext Wy wr∧Hid (qab RAr 4 106 Wy.heap.size (fun q=>q<w.heap.size) wr (muP s m k) (.slice Ao (muP s m k).length co))) (fun _ v _=>s.es.length-(intOf v).toNat)
 case atStart=>exact ⟨0,none,0,Nat.zero_le _,rfl,rfl,Ext.refl _,qab.nil ..⟩
 case round =>
  obtain ⟨k,Ao,co,hk,rfl,rfl,hE,hO⟩:=hrel
  have HE':=Hd hE
  have a1':=Ext.keep hE a1
  have m0':=Ext.keep hE m0
  have m1':=Ext.keep hE m1
  have m2':=Ext.keep hE m2
  have m3':=Ext.keep hE m3
  have hzr:=hE.size
  by_cases hlt:k<s.es.length
  ·have hX:=HX0.out.trans' hE
   have hed:=qlp HOK.out k hlt
   obtain ⟨b,off,cs1,rfl,hb,hSb,hl,hr,hcell⟩:=(qb5.good.bel HE.out hX).get k hlt
   obtain ⟨jf,jl2,jt2,rfl⟩:=id hr
   have d0:=hcell.get 0 _
   have d1:=hcell.get 1 _
   have d2:=hcell.get 2 _
   simp only [Nat.add_zero] at d0
   have hme:=qen hlt
   obtain ⟨⟨f,l,t⟩,hxe⟩:∃ x,s.es[k]=x:=⟨_,rfl⟩
   rw [hxe] at d0 d1 d2 hme jf jl2 jt2
   rw [hme] at hed
   simp only at d0 d1 d2 hed jf jl2 jt2
   obtain ⟨li,rfl⟩:∃ li:Nat,l=(li:Int):=⟨l.toNat,by omega⟩
   have hli:li<s.ls.length:=by omega
   obtain ⟨b2,off2,cs2,rfl,hb2,hSb2,hl2,hr2,hcell2⟩:=(qaa.good.bel HL.out hX).get li hli
   obtain ⟨jg,vx,rfl,hvx⟩:=id hr2
   obtain ⟨Ax,cx,rfl,_,_⟩:=hvx.val
   have e0:=hcell2.get 0 _
   have e1:=hcell2.get 1 _
   simp only [Nat.add_zero] at e0
   have hsu:=qkq s m k
   rw [hme] at hsu
   have HSU:=Hd hsu
   have HR2:=Hd hr2
   have HJ:Hid (I64 f∧I64 t):=⟨jf,jt2⟩
   have HLI:=Hd (qea s.ls li hli)
   obtain ⟨x,hx⟩:∃ x,s.ls[li]=x:=⟨_,rfl⟩
   rw [hx] at e0 e1 HR2 HLI hvx
   have hyl:=qkh s m k
   obtain ⟨ys,hys⟩:∃ ys,muP s m k=ys:=⟨_,rfl⟩
   rw [hys] at hO HSU hyl ⊢
   clear hcell hcell2 hl hl2 hSb hSb2 hr hr2 hx hxe hme hsu jf jl2 jt2 hE a1 m0 m1 m2 m3 a2 hys
   go_wp2_with fail
   have a1'':=Lib.cell?_alloc_some (.cells #[.int .i64 f,.int .i64 (li:Int),.int .i64 t] 88) a1'
   have e0'':=Lib.cell?_alloc_some (.cells #[.int .i64 f,.int .i64 (li:Int),.int .i64 t] 88) e0
   have e1'':=Lib.cell?_alloc_some (.cells #[.int .i64 f,.int .i64 (li:Int),.int .i64 t] 88) e1
   refine qg2 (fun W=>W.cell? ⟨w.heap.size,1,none⟩=some (.slice (some ⟨b2,off2,none⟩) s.ls.length cl)∧W.cell? ⟨wr.heap.size,0,none⟩=some (.int .i64 f)∧W.cell? ⟨wr.heap.size,1,none⟩=some (.int .i64 (li:Int))∧W.cell? ⟨wr.heap.size,2,none⟩=some (.int .i64 t)∧W.cell? ⟨b2,off2+li*2,none⟩=some (.int .i64 x.g)∧W.cell? ⟨b2,off2+li*2+1,none⟩=some (.slice Ax x.v.length cx)) (by kernel_rfl) (by rfl) (by kernel_rfl) ⟨a1'',by go_simp,by go_simp,by go_simp,e0'',e1''⟩ (fun hHeld=>?_)
   dsimp only [List.dropLast,List.getLastD,List.getLast?,List.getLast]
   obtain ⟨Wd,hWd⟩:∃ Wd,(wr.alloc (.cells #[.int .i64 f,.int .i64 (li:Int),.int .i64 t] 88)).drew=Wd:=⟨_,rfl⟩
   have hXd:Ext wr Wd:=hWd ▸ Below.drew ((Ext.refl _).alloc _)
   rw [hWd] at hHeld ⊢
   clear hWd a1'' e0'' e1''
   (refine tk 0 ?_;try simp only [qai])
   (refine tk 1 ?_;try simp only [qai])
   (refine tk 2 ?_;try simp only [qai])
   (refine tk 3 ?_;try simp only [qai])
   (refine tk 4 ?_;try simp only [qai])
   (refine tk 5 ?_;try simp only [qai])
   (refine tk 6 ?_;try simp only [qai])
   (refine tk 7 ?_;try simp only [qai])
   (refine tk 8 ?_;try simp only [qai])
   (refine tk 9 ?_;try simp only [qai])
   (refine tk 10 ?_;try simp only [qai])
   refine wpAnyH_ready (rs:=[11]) (by kernel_rfl) (by simp) ?_
   refine AllReadyH.cons rfl (fun K hK=>?_) AllReadyH.nil
   go_simp
   have hHeld6:=Ext.k6 ((Ext.refl Wd).alloc (.cells #[.int .i64 0,.int .i64 0,.slice none 0 0,.int .i64 0] 106)) hHeld
   refine hK.out _ _ hHeld6 (fun _=>?_)
   clear hK K
   try simp only [qai]
   refine wpAnyH_done (by kernel_rfl) ?_ _
   show Oper.wp _ _ _ _ _ _
   go_simp
   obtain ⟨Ba,hBa⟩:∃ Ba,Wd.heap.size=Ba:=⟨_,rfl⟩
   obtain ⟨Wa,hWa⟩:∃ Wa,Wd.alloc (.cells #[.int .i64 f,.int .i64 x.g,.slice Ax x.v.length cx,.int .i64 t] 106)=Wa:=⟨_,rfl⟩
   have hba:qaf Wa Ba 106 [.int .i64 f,.int .i64 x.g,.slice Ax x.v.length cx,.int .i64 t]:=by rw [<- hWa,<- hBa];exact qaf.new Wd _ _
   have hXa:Ext wr Wa:=by rw [<- hWa];exact hXd.alloc _
   have hBaw:wr.heap.size<=Ba:=by rw [<- hBa];exact hXd.size
   rw [hWa,hBa]
   have m0a:=Ext.keep hXa m0'
   have m1a:=Ext.keep hXa m1'
   have m2a:=Ext.keep hXa m2'
   have m3a:=Ext.keep hXa m3'
   have a1a:=Ext.keep hXa a1'
   have c0a:=hba.cell 0 _
   have c1a:=hba.cell 1 _
   have c2a:=hba.cell 2 _
   have c3a:=hba.cell 3 _
   have cza:=hba.lt
   have f1a:=hba.frozen 1
   have f2a:=hba.frozen 2
   have f3a:=hba.frozen 3
   have mza:B1<Wa.heap.size:=by have:=hXa.size;omega
   have aza:w.heap.size<Wa.heap.size:=by have:=hXa.size;omega
   have HBA:=Hd hba
   have HXA:=Hd hXa
   have HRX:=Hd (RLb.good.bel HR2.out hXa)
   have HJE:Hid ((m.e == (k:Int))=((k:Int) == m.e)):=by show _=_;rw [Bool.eq_iff_iff,beq_iff_eq,beq_iff_eq];exact eq_comm
   clear hHeld hHeld6 hXd hWa hBa hba hXa m0' m1' m2' m3' hvx e0 e1
   go_upto_if 106 with (fail)
   go_cut [] (fun wx=>∃ (a:Ar) (va:Value),Hid (qdx s m k ⟨f,(li:Int),t⟩=[a]∧Ext wr wx∧qaf wx Ba 106 [.int .i64 a.f,.int .i64 a.l.g,va,.int .i64 a.t]∧RAr (fun q=>q<w.heap.size) wx a [.int .i64 a.f,.int .i64 a.l.g,va,.int .i64 a.t]))
   case first =>
    by_cases he:(k:Int)=m.e
    ·have r0:((k:Int) == m.e)=true:=beq_iff_eq.2 he
     rcases HM.out.2 with ⟨g1,g2,g3⟩ | ⟨g1,g2,g3⟩ | ⟨g1,g2,g3⟩
     ·have r1:(m.k == 1)=true:=beq_iff_eq.2 g1
      have hnil:Hid (qdx s m k ⟨f,(li:Int),t⟩=[]):=by show _=_;rw [qdx,if_pos he,if_pos g1]
      clear he g1 g2 g3
      go_wp2_with fail
      refine ⟨⟨k+1,Ao,co,by omega,by go_num,by rw [HSU.out,hnil.out,List.append_nil],HE'.out.trans' HXA.out,?_⟩,by simp [intOf];omega⟩
      show qab _ _ _ _ _ _ _ _
      rw [HSU.out,hnil.out,List.append_nil]
      exact hO.out.ext RAr.good HXA.out
     ·have r1:(m.k == 1)=false:=beq_eq_false_iff_ne.2 (by omega)
      have r2:(m.k == 2)=true:=beq_iff_eq.2 g1
      have hone:Hid (qdx s m k ⟨f,(li:Int),t⟩=[⟨f,x,m.t⟩]):=by show _=_;rw [qdx,if_pos he,if_neg (by omega),if_pos g1];show [Ar.mk f (qa4 s.ls (li:Int)) m.t]=_;rw [HLI.out]
      clear he g1 g2 g3
      go_wp2_with fail
      go_meet
      have hE2:Ext wr (Wa.setCell ⟨Ba,3,none⟩ (.int .i64 m.t)):=Ext.set (p:=⟨Ba,3,none⟩) HXA.out hBaw _
      exact ⟨⟨f,x,m.t⟩,_,hone.out,hE2,HBA.out.set 3 _,HJ.out.1,jt,_,rfl,qnw (RLb.good.bel HR2.out hE2)⟩
     ·have r1:(m.k == 1)=false:=beq_eq_false_iff_ne.2 (by omega)
      have r2:(m.k == 2)=false:=beq_eq_false_iff_ne.2 (by omega)
      have r3:(m.k == 3)=true:=beq_iff_eq.2 g1
      have hml:m.l.toNat<s.ls.length:=by omega
      obtain ⟨b3,off3,cs3,eb3,hb3,_,_,hr3,hcell3⟩:=(qaa.good.bel HL.out (HX0.out.trans' HE'.out)).get m.l.toNat hml
      injection eb3 with eb3
      injection eb3 with eb3 eo3
      subst eb3 eo3
      obtain ⟨jg3,vx3,rfl,hvx3⟩:=id hr3
      obtain ⟨A3,c3,rfl,_,_⟩:=hvx3.val
      have p0:=Ext.keep HXA.out (hcell3.get 0 _)
      have p1:=Ext.keep HXA.out (hcell3.get 1 _)
      simp only [Nat.add_zero] at p0
      have hlx:qa4 s.ls m.l=s.ls[m.l.toNat]:=by simp [qa4,hml]
      have hone:Hid (qdx s m k ⟨f,(li:Int),t⟩=[⟨f,s.ls[m.l.toNat],t⟩]):=by show _=_;rw [qdx,if_pos he,if_neg (by omega),if_neg (by omega)];show [Ar.mk f (qa4 s.ls m.l) t]=_;rw [hlx]
      obtain ⟨y,hy⟩:∃ y,s.ls[m.l.toNat]=y:=⟨_,rfl⟩
      rw [hy] at p0 p1 hone hr3
      have HR3:=Hd hr3
      have hl0:0<=m.l:=g3.1
      have hl1:m.l<(s.ls.length:Int):=g3.2
      clear he g1 g2 g3 hcell3 hr3 hvx3 hlx hy
      go_wp2_with fail
      go_meet
      have hE2:Ext wr ((Wa.setCell ⟨Ba,1,none⟩ (.int .i64 y.g)).setCell ⟨Ba,2,none⟩ (.slice A3 y.v.length c3)):=Ext.set (p:=⟨Ba,2,none⟩) (Ext.set (p:=⟨Ba,1,none⟩) HXA.out hBaw _) hBaw _
      exact ⟨⟨f,y,t⟩,_,hone.out,hE2,(HBA.out.set 1 _).set 2 _,HJ.out.1,HJ.out.2,_,rfl,qnw (RLb.good.bel HR3.out hE2)⟩
    ·have r0:((k:Int) == m.e)=false:=beq_eq_false_iff_ne.2 he
     have hone:qdx s m k ⟨f,(li:Int),t⟩=[⟨f,x,t⟩]:=by rw [qdx,if_neg he,qit,HLI.out]
     clear he
     go_wp2_with fail
     go_meet
     exact ⟨⟨f,x,t⟩,_,hone,HXA.out,HBA.out,HJ.out.1,HJ.out.2,_,rfl,qnw HRX.out⟩
   case rest =>
   rename World=>Wc
   obtain ⟨a,va,hh⟩:=hcut
   have HA:=Hd hh.out.1
   have HEC:=Hd hh.out.2.1
   have hbc:=hh.out.2.2.1
   have HRA:=Hd hh.out.2.2.2
   clear hh
   clear c0a c1a c2a c3a cza f1a f2a f3a m0a m1a m2a m3a a1a mza aza HBA HXA HRX
   have c0a:=hbc.cell 0 _
   have c1a:=hbc.cell 1 _
   have c2a:=hbc.cell 2 _
   have c3a:=hbc.cell 3 _
   have cza:=hbc.lt
   have hOc:=hO.out.ext RAr.good HEC.out
   have hob:=fun q hq=>hO.out.own_lt (b:=q) hq
   obtain ⟨g2,c2,w2,hr2,ho2,hb2,_,_⟩:=qff RAr.good (by decide) Wy.heap.size 106 177 (.agg #[.int .i64 0,.int .i64 0,.slice none 0 0,.int .i64 0]) 48 Tryz.underlying177 info106b rfl (by decide) (fun q=>q<w.heap.size) Wc ys (.slice Ao ys.length co) a _ hOc (RAr.good.mono HRA.out fun q _ hq=>⟨hq,fun e=>by have:=(hob q e).1;have:=HN.out;omega⟩) (by have:=HEC.out.size;omega) (by omega)
   have HO2:=Hd ho2
   have HX2:Hid (Ext Wy w2):=Bt.new (HE'.out.trans' HEC.out) hb2 fun q _ h=>(hob q h).1
   clear hbc hOc ho2 hb2 hO hob HRA
   go_wp2_with (at_builtin;refine wpList_append_run rfl _ _ _ rfl _ _ _ rfl rfl hr2 ?_;clear hr2)
   go_roundw
   case rel=>exact ⟨k+1,some ⟨g2,0,none⟩,c2,by omega,by go_num,by rw [HSU.out,HA.out];simp,HX2.out,(by have h:=HO2.out;show qab _ _ _ _ _ _ _ _;rw [HSU.out,HA.out];simpa using h)⟩
   case measure=>simp [intOf];omega
  ·obtain rfl:k=s.es.length:=by omega
   have hb:=HBU.out _ wr ((RSl.good RAr.good).mono (hO.out.sl RAr.good (by decide)) fun _ _ _=>trivial)
   have a0':=Ext.keep hE a0
   have azr:w.heap.size<wr.heap.size:=by omega
   have HB2r:=Hd (HB2.out.ext hE)
   clear m0' m1' m2' m3' hO
   go_wp2_with fail
   refine hb.mono ?_
   rintro e w5 ⟨cs5,rfl,hsy,hx5⟩
   obtain ⟨j5,v1,v2,rfl,hv1,hv2⟩:=id hsy
   obtain ⟨A5,c5,rfl,_,_⟩:=hv1.val
   obtain ⟨A6,c6,rfl,_,_⟩:=hv2.val
   have hB5:=HB2r.out.ext hx5
   have r0:=hB5.cell 0 _
   have r1:=hB5.cell 1 _
   have r2:=hB5.cell 2 _
   have rz:=hB5.lt
   have f0:=hB5.frozen 0
   have f1:=hB5.frozen 1
   have f2:=hB5.frozen 2
   have HB5:=Hd hB5
   have HSY:=Hd hsy
   have HX5:=Hd (HE'.out.trans' hx5)
   obtain ⟨z,hz⟩:∃ z,qdn s.n (qd7 s m)=z:=⟨_,rfl⟩
   rw [hz] at HSY ⊢
   have HZ:=Hd hz
   clear hb hsy hx5 hv1 hv2 hB5 hz
   go_wp2_with fail
   have hB3:=((HB5.out.set 0 (.int .i64 z.n)).set 1 (.slice A5 z.ls.length c5)).set 2 (.slice A6 z.es.length c6)
   have sAll:Bt (fun q=>q=B2) w5 (((w5.setCell ⟨B2,0,none⟩ (.int .i64 z.n)).setCell ⟨B2,1,none⟩ (.slice A5 z.ls.length c5)).setCell ⟨B2,2,none⟩ (.slice A6 z.es.length c6)) :=
    Bt.set (Z:=fun q=>q=B2) (p:=⟨B2,2,none⟩) (Bt.set (Z:=fun q=>q=B2) (p:=⟨B2,1,none⟩) (Bt.set (Z:=fun q=>q=B2) (p:=⟨B2,0,none⟩) (Bt.refl _ _) (.inr rfl) _) (.inr rfl) _) (.inr rfl) _
   have hB4:=hB3.ext ((Ext.refl _).alloc (.cells #[.int .i64 z.n,.slice A5 z.ls.length c5,.slice A6 z.es.length c6] 25))
   refine bodyPost_ret (qq2 rfl _ _ B2 _ _ _ (.bool true) (.int .i64 0) rfl rfl rfl (hB4.cell 0 _) (hB4.cell 1 _) (hB4.cell 2 _)) rfl ⟨[.int .i64 z.n,.slice A5 z.ls.length c5,.slice A6 z.es.length c6],rfl,?_,(Bt.new (HX0.out.trans' HX5.out) sAll fun q _ h=>by have:=HN.out;omega).alloc _⟩
   rw [show qci s m=z from HZ.out]
   refine RSy.good.mono (RSy.good.bel (RSy.good.move HSY.out (sAll.kp fun q _ h h'=>by have:=HN.out;omega)) ((Ext.refl _).alloc _)) fun b _ h=>?_
   have:=HN.out
   omega
end
end Go.Proofs.YtegenalcheooeaaGreat
