/- Of the proof of a law of the suites: RSys, PCalm. -/
import Derived.Test.YtegenalcheooeaaGreatB05
import Derived.Test.YtegenalcheooeaaGreatB06
import Derived.Test.YtegenalcheooeaaGreatB20
import Derived.Test.YtegenalcheooeaaGreatB22
import Derived.Test.YtegenalcheooeaaGreatRM01
import Derived.Test.YtegenalcheooeaaGreatRM02
set_option linter.unusedSectionVars false
set_option linter.unusedSimpArgs false
set_option linter.unusedVariables false
namespace Go.Proofs.YtegenalcheooeaaGreat
open Go.RowKit
attribute [local go_sem] cell?_exto
section
set_option maxHeartbeats 4000000
set_option maxRecDepth 100000
/- The reference's Ahead,Is and Check of a transition system: walked. -/
theorem Ahead_c (S:Nat->Prop) (x y:Ed) (cx cy:List Value) (w:World) (hx:REd S w x cx) (hy:REd S w y cy) :
  Calls Tryz.prog 223 #[.agg cx.toArray,.agg cy.toArray] w fun e w'=>e = .returned (.bool (decide (qbt x y<0)))∧qaf w w':=by
 obtain ⟨_,_,_,rfl⟩:=hx
 obtain ⟨_,_,_,rfl⟩:=hy
 have hmk:=qj6 x y
 obtain ⟨xf,h⟩:∃ q,x.f=q:=⟨_,rfl⟩;rw [h] at hmk;rw [h];clear h
 obtain ⟨xl,h⟩:∃ q,x.l=q:=⟨_,rfl⟩;rw [h] at hmk;rw [h];clear h
 obtain ⟨xt,h⟩:∃ q,x.t=q:=⟨_,rfl⟩;rw [h] at hmk;rw [h];clear h
 obtain ⟨yf,h⟩:∃ q,y.f=q:=⟨_,rfl⟩;rw [h] at hmk;rw [h];clear h
 obtain ⟨yl,h⟩:∃ q,y.l=q:=⟨_,rfl⟩;rw [h] at hmk;rw [h];clear h
 obtain ⟨yt,h⟩:∃ q,y.t=q:=⟨_,rfl⟩;rw [h] at hmk;rw [h];clear h
 by_cases h1:xf=yf
 rotate_left
 ·have hb:(xf != yf)=true:=by simpa using h1
  have HV:=Hd (show decide (qbt x y<0)=decide (xf<yf) from by
   by_cases h:xf<yf
   ·rw [decide_eq_true h,decide_eq_true (hmk.2 (.inl h))]
   ·rw [decide_eq_false h,decide_eq_false (fun h'=>by rcases hmk.1 h' with h2 | ⟨h2,_⟩ <;> omega)])
  clear h1 hmk
  go_enter Tryz.func223,Tryz.ntmps223
  go_wp2_with fail
  go_ret
  exact ⟨by rw [HV.out];rfl,qaj⟩
 have hb:(xf != yf)=false:=by simpa using h1
 by_cases h2:xl=yl
 rotate_left
 ·have hb2:(xl != yl)=true:=by simpa using h2
  have HV:=Hd (show decide (qbt x y<0)=decide (xl<yl) from by
   by_cases h:xl<yl
   ·rw [decide_eq_true h,decide_eq_true (hmk.2 (.inr ⟨h1,.inl h⟩))]
   ·rw [decide_eq_false h,decide_eq_false (fun h'=>by rcases hmk.1 h' with h2 | ⟨h2,h3 | ⟨h3,_⟩⟩ <;> omega)])
  clear h1 h2 hmk
  go_enter Tryz.func223,Tryz.ntmps223
  go_wp2_with fail
  go_ret
  exact ⟨by rw [HV.out];rfl,qaj⟩
 have hb2:(xl != yl)=false:=by simpa using h2
 have HV:=Hd (show decide (qbt x y<0)=decide (xt<yt) from by
  by_cases h:xt<yt
  ·rw [decide_eq_true h,decide_eq_true (hmk.2 (.inr ⟨h1,.inr ⟨h2,h⟩⟩))]
  ·rw [decide_eq_false h,decide_eq_false (fun h'=>by rcases hmk.1 h' with h2 | ⟨h2,h3 | ⟨h3,h4⟩⟩ <;> omega)])
 clear h1 h2 hmk
 go_enter Tryz.func223,Tryz.ntmps223
 go_wp2_with fail
 go_ret
 exact ⟨by rw [HV.out];rfl,qaj⟩
noncomputable def qhf (s:Sy):Bool:=@decide (qah s) (Classical.propDecidable _)
theorem qg2 {s:Sy} (h:¬ qah s):qhf s=false:=by unfold qhf;exact @decide_eq_false _ (Classical.propDecidable _) h
theorem qsw {s:Sy} (h:qah s):qhf s=true:=by unfold qhf;exact @decide_eq_true _ (Classical.propDecidable _) h
theorem qh5 (s:Sy) (e:Ed):qb8 s e=true↔0<=e.f∧e.f<s.n∧0<=e.t∧e.t<s.n∧0<=e.l∧e.l<s.ls.length:=by
 simp only [qb8,isB,Bool.and_eq_true,decide_eq_true_eq]
 omega
theorem Is17_c (S:Nat->Prop) (s:Sy) (cs:List Value) (w:World) (hx:RSy S w s cs) :
  Calls Tryz.prog 153 #[.agg cs.toArray] w fun e w'=>e = .returned (.bool (qhf s))∧Ext w w':=by
 obtain ⟨_,v,u,rfl,hv,hu⟩:=id hx
 obtain ⟨A,c,rfl,hc,hc0⟩:=hv.val
 obtain ⟨A',c',rfl,hc',hc0'⟩:=hu.val
 have HL:=Hd hv
 have HE:=Hd hu
 clear hx hv hu
 obtain ⟨m,hm⟩:∃ m,s.n=m:=⟨_,rfl⟩
 rw [hm]
 by_cases b1:1<=m
 rotate_left
 ·have HV:=Hd (qg2 (s:=s) (fun h=>b1 (hm ▸ h.1)))
  clear hm
  go_enter Tryz.func153,Tryz.ntmps153
  go_wp2_with fail
  go_ret
  exact ⟨by rw [HV.out];rfl,bel⟩
 by_cases b2:m<=20000
 rotate_left
 ·have HV:=Hd (qg2 (s:=s) (fun h=>b2 (hm ▸ h.2.1)))
  clear hm
  go_enter Tryz.func153,Tryz.ntmps153
  go_wp2_with fail
  go_ret
  exact ⟨by rw [HV.out];rfl,bel⟩
 by_cases b3:s.ls.length<=4000
 rotate_left
 ·have HV:=Hd (qg2 (s:=s) (fun h=>b3 h.2.2.1))
  clear hm
  go_enter Tryz.func153,Tryz.ntmps153
  go_wp2_with fail
  go_ret
  exact ⟨by rw [HV.out];rfl,bel⟩
 by_cases b4:s.es.length<=100000
 rotate_left
 ·have HV:=Hd (qg2 (s:=s) (fun h=>b4 h.2.2.2.1))
  clear hm
  go_enter Tryz.func153,Tryz.ntmps153
  go_wp2_with fail
  go_ret
  exact ⟨by rw [HV.out];rfl,bel⟩
 have b3':(s.ls.length:Int)<=4000:=by omega
 have b4':(s.es.length:Int)<=100000:=by omega
 have HM:=Hd hm
 clear hm
 obtain ⟨W0,hW0⟩:∃ W0,w.alloc (.cells #[.int .i64 m,.slice A s.ls.length c,.slice A' s.es.length c'] 25)=W0:=⟨_,rfl⟩
 have hE0:Ext w W0:=by rw [<- hW0];exact (Ext.refl w).alloc _
 have hB0:qag W0 w.heap.size 25 [.int .i64 m,.slice A s.ls.length c,.slice A' s.es.length c']:=by rw [<- hW0];exact qag.new w 25 _
 have HB0:=Hd hB0
 have HE0:=Hd hE0
 obtain ⟨p0,hp0⟩:∃ p0,w.heap.size=p0:=⟨_,rfl⟩
 rw [hp0] at HB0
 have HP0:=Hd hp0
 have HW0:=Hd hW0
 clear hE0 hB0 hp0 hW0
 go_enter Tryz.func153,Tryz.ntmps153
 go_wp2_with fail
 rw [HW0.out,HP0.out]
 go_loopw [3] (fun i wr=>∃ k:Nat,k<=s.ls.length∧i = .int .i64 k∧Ext W0 wr∧Hid (∀ j,j<k->qj5 s.ls j)) (fun i _=>s.ls.length-(intOf i).toNat)
 case atStart=>exact ⟨0,Nat.zero_le _,rfl,Ext.refl _,fun j hj=>absurd hj (by omega)⟩
 case round =>
  obtain ⟨k,hk,rfl,hX,hz⟩:=hrel
  have hbx:=HB0.out.ext hX
  have x1:=hbx.cell 1 _
  have xz:=hbx.lt
  clear hbx
  by_cases hlt:k<s.ls.length
  ·obtain ⟨b,off,cs,rfl,hb,hS,hl,hr,hcell⟩:=(qaa.good.bel HL.out (HE0.out.trans' hX)).get k hlt
   obtain ⟨_,v1,rfl,hv1⟩:=id hr
   have g0:=hcell.get 0 _
   have g1:=hcell.get 1 _
   simp only [Nat.add_zero] at g0
   have hck:=qrx S _ _ wr hr
   clear hcell hl hS hv1
   cases ho:qaz s.ls[k] with
   | false =>
    have HV:=Hd (qg2 (s:=s) (fun h=>by have:=(h.2.2.2.2.1 k hlt).1;rw [ho] at this;cases this))
    rw [ho] at hck
    clear ho hr
    go_wp2_with fail
    refine hck.mono ?_
    rintro e w1 ⟨rfl,h1⟩
    go_wp2_with fail
    go_ret
    exact ⟨by rw [HV.out];rfl,(HE0.out.trans' hX).trans' h1⟩
   | true =>
    rw [ho] at hck
    rcases k with _ | k
    ·have HO:=Hd ho
     simp only [Nat.zero_mul,Nat.add_zero] at g0 g1
     clear ho hr
     go_wp2_with fail
     refine hck.mono ?_
     rintro e w1 ⟨rfl,h1⟩
     go_wp2_with fail
     (refine qax ?_;(repeat (first | go_big_quiet_step ((fail)) | quiet_step ((fail))));refine wpQuiet_nil ?_)
     intro w2 hx2
     go_wp2_with fail
     go_roundw
     case rel =>
      refine ⟨1,by omega,by go_num,(hX.trans' h1).trans' hx2,fun j hj h=>?_⟩
      obtain rfl:j=0:=by omega
      exact ⟨HO.out,fun h0=>absurd h0 (by omega)⟩
     case measure=>simp [intOf];omega
    ·have hk0:k<s.ls.length:=by omega
     have z1:(0:Int)<=(k:Int):=by omega
     have z2:((k:Int)+1)<(s.ls.length:Int):=by omega
     have z4:(k:Int)<(s.ls.length:Int):=by omega
     have z5:(0:Int)<(k:Int)+1:=by omega
     have HO:=Hd ho
     clear ho hr
     go_wp2_with fail
     refine hck.mono ?_
     rintro e w1 ⟨rfl,h1⟩
     clear g0 g1 x1
     have hbx:=HB0.out.ext (hX.trans' h1)
     have x1:=hbx.cell 1 _
     have xz1:=hbx.lt
     clear hbx
     have hRL:=qaa.good.bel HL.out (HE0.out.trans' (hX.trans' h1))
     obtain ⟨b',off',cs',he,hb',hS',hl',hr',hcell'⟩:=hRL.get k hk0
     injection he with he
     injection he with he1 he2
     subst he1 he2
     obtain ⟨b',off',cs2,he,_,_,_,hr2,hcell2⟩:=hRL.get (k+1) hlt
     injection he with he
     injection he with he1 he2
     subst he1 he2
     obtain ⟨_,v2,rfl,hv2⟩:=id hr'
     obtain ⟨_,v3,rfl,hv3⟩:=id hr2
     have g0:=hcell2.get 0 _
     have g1:=hcell2.get 1 _
     have g0':=hcell'.get 0 _
     have g1':=hcell'.get 1 _
     simp only [Nat.add_zero] at g0 g0'
     have hcmp:=fun W (hW:Ext w1 W)=>qo8 S _ _ _ _ W (RLb.good.bel hr' hW) (RLb.good.bel hr2 hW)
     clear hRL hr' hr2 hcell' hcell2 hl' hS' hv2 hv3
     by_cases hc2:qan s.ls[k] s.ls[k+1]<0
     ·have HC:=Hd hc2
      have hd':decide (0<=qan s.ls[k] s.ls[k+1])=false:=by simp;omega
      clear hc2
      go_wp2_with fail
      (refine qax ?_;(repeat (first | go_big_quiet_step ((go_at_call 172;exact qav (hcmp _ (qbg _ _)))) | quiet_step ((go_at_call 172;exact qav (hcmp _ (qbg _ _))))));refine wpQuiet_nil ?_)
      intro w2 hx2
      go_wp2_with fail
      go_roundw
      case rel =>
       refine ⟨k+1+1,by omega,by go_num,(hX.trans' h1).trans' hx2,fun j hj h=>?_⟩
       rcases Nat.lt_or_ge j (k+1) with h' | h'
       ·exact hz j h' h
       ·obtain rfl:j=k+1:=by omega
        exact ⟨HO.out,fun _=>HC.out⟩
      case measure=>simp [intOf];omega
     ·have HV:=Hd (qg2 (s:=s) (fun h=>hc2 ((h.2.2.2.2.1 (k+1) hlt).2 (by omega))))
      have hd':0<=qan s.ls[k] s.ls[k+1]:=by omega
      clear hc2
      go_wp2_with fail
      (refine qax ?_;(repeat (first | go_big_quiet_step ((go_at_call 172;exact qav (hcmp _ (qbg _ _)))) | quiet_step ((go_at_call 172;exact qav (hcmp _ (qbg _ _))))));refine wpQuiet_nil ?_)
      intro w2 hx2
      go_wp2_with fail
      go_ret
      exact ⟨by rw [HV.out];rfl,(HE0.out.trans' (hX.trans' h1)).trans' hx2⟩
  ·have hok:∀ j,qj5 s.ls j:=fun j h=>hz j (by omega) h
   have HOK:=Hd hok
   clear hok hz
   go_wp2_with fail
   obtain ⟨w7,hw7⟩:∃ w7,w7=wr:=⟨_,rfl⟩
   rw [<- hw7] at hX
   rw [<- hw7]
   clear hw7 xz x1 hlt hk
   go_loopw [5] (fun i wr=>∃ k:Nat,k<=s.es.length∧i = .int .i64 k∧Ext W0 wr∧Hid (∀ j,j<k->qk9 s j)) (fun i _=>s.es.length-(intOf i).toNat)
   case atStart=>exact ⟨0,Nat.zero_le _,rfl,hX,fun j hj=>absurd hj (by omega)⟩
   case round =>
    clear hX
    obtain ⟨k,hk,rfl,hX,hz⟩:=hrel
    have hbx:=HB0.out.ext hX
    have x0:=hbx.cell 0 _
    have x1:=hbx.cell 1 _
    have x2:=hbx.cell 2 _
    have xz:=hbx.lt
    clear hbx
    have hX2:∀ (o:Obj) (y:World),Ext wr (qam (wr.alloc o) y):=fun o y=>((Ext.refl wr).alloc o).trans' (qbg _ y)
    by_cases hlt:k<s.es.length
    ·obtain ⟨b,off,cs,rfl,hb,hS,hl,hr,hcell⟩:=(qcj.good.bel HE.out (HE0.out.trans' hX)).get k hlt
     obtain ⟨_,_,_,rfl⟩:=id hr
     have g0:=hcell.get 0 _
     have g1:=hcell.get 1 _
     have g2:=hcell.get 2 _
     simp only [Nat.add_zero] at g0
     clear hcell hl hS
     by_cases hok:qb8 s s.es[k]=true
     rotate_left
     ·have HV:=Hd (qg2 (s:=s) (fun h=>hok (h.2.2.2.2.2 k hlt).1))
      rw [qh5,HM.out] at hok
      obtain ⟨q1,hq⟩:∃ q,s.es[k].f=q:=⟨_,rfl⟩;rw [hq] at hok g0;clear hq
      obtain ⟨q2,hq⟩:∃ q,s.es[k].l=q:=⟨_,rfl⟩;rw [hq] at hok g1;clear hq
      obtain ⟨q3,hq⟩:∃ q,s.es[k].t=q:=⟨_,rfl⟩;rw [hq] at hok g2;clear hq
      clear hr
      have hfin:∀ b':Bool,b'=false->(Ending.returned (.bool b')) = .returned (.bool (qhf s)):=fun b' h=>by rw [HV.out,h]
      by_cases c1:0<=q1
      rotate_left
      ·clear hok
       go_wp2_with fail
       go_ret
       exact ⟨by rw [HV.out];rfl,(HE0.out.trans' hX).trans' bel⟩
      by_cases c2:q1<m
      rotate_left
      ·clear hok
       go_wp2_with fail
       go_ret
       exact ⟨by rw [HV.out];rfl,(HE0.out.trans' hX).trans' bel⟩
      by_cases c3:0<=q3
      rotate_left
      ·clear hok
       go_wp2_with fail
       go_ret
       exact ⟨by rw [HV.out];rfl,(HE0.out.trans' hX).trans' bel⟩
      by_cases c4:q3<m
      rotate_left
      ·clear hok
       go_wp2_with fail
       go_ret
       exact ⟨by rw [HV.out];rfl,(HE0.out.trans' hX).trans' bel⟩
      by_cases c5:0<=q2
      rotate_left
      ·clear hok
       go_wp2_with fail
       go_ret
       exact ⟨by rw [HV.out];rfl,(HE0.out.trans' hX).trans' bel⟩
      have c6:¬ q2<s.ls.length:=fun h=>hok ⟨c1,c2,c3,c4,c5,h⟩
      clear hok
      go_wp2_with fail
      go_ret
      exact ⟨by rw [HV.out];rfl,(HE0.out.trans' hX).trans' bel⟩
     have HO:=Hd hok
     rw [qh5,HM.out] at hok
     obtain ⟨c1,c2,c3,c4,c5,c6⟩:=hok
     rcases k with _ | k
     ·simp only [Nat.zero_mul,Nat.add_zero] at g0 g1 g2
      clear hr
      go_wp2_with fail
      (refine qax ?_;(repeat (first | go_big_quiet_step ((fail)) | quiet_step ((fail))));refine wpQuiet_nil ?_)
      intro w1 hx1
      go_wp2_with fail
      go_roundw
      case rel =>
       refine ⟨1,by omega,by go_num,hX.trans' bel,fun j hj h=>?_⟩
       obtain rfl:j=0:=by omega
       exact ⟨HO.out,fun h0=>absurd h0 (by omega)⟩
      case measure=>simp [intOf];omega
     ·have hk0:k<s.es.length:=by omega
      obtain ⟨b',off',cs',he,hb',hS',hl',hr',hcell'⟩:=(qcj.good.bel HE.out (HE0.out.trans' hX)).get k hk0
      injection he with he
      injection he with he1 he2
      subst he1 he2
      obtain ⟨_,_,_,rfl⟩:=id hr'
      have g0':=hcell'.get 0 _
      have g1':=hcell'.get 1 _
      have g2':=hcell'.get 2 _
      simp only [Nat.add_zero] at g0'
      have hcmp:=fun W (hW:Ext wr W)=>Ahead_c S _ _ _ _ W (REd.good.bel hr' hW) (REd.good.bel hr hW)
      have z1:(0:Int)<=(k:Int):=by omega
      have z2:((k:Int)+1)<(s.es.length:Int):=by omega
      have z4:(k:Int)<(s.es.length:Int):=by omega
      have z5:(0:Int)<(k:Int)+1:=by omega
      clear hr hr' hcell' hl' hS'
      by_cases hc2:qbt s.es[k] s.es[k+1]<0
      ·have HC:=Hd hc2
       rw [decide_eq_true hc2] at hcmp
       clear hc2
       go_wp2_with fail
       (refine qax ?_;(repeat (first | go_big_quiet_step ((go_at_call 223;exact qav (hcmp _ (hX2 _ _)))) | quiet_step ((go_at_call 223;exact qav (hcmp _ (hX2 _ _))))));refine wpQuiet_nil ?_)
       intro w1 hx1
       go_wp2_with fail
       go_roundw
       case rel =>
        refine ⟨k+1+1,by omega,by go_num,hX.trans' bel,fun j hj h=>?_⟩
        rcases Nat.lt_or_ge j (k+1) with h' | h'
        ·exact hz j h' h
        ·obtain rfl:j=k+1:=by omega
         exact ⟨HO.out,fun _=>HC.out⟩
       case measure=>simp [intOf];omega
      ·have HV:=Hd (qg2 (s:=s) (fun h=>hc2 ((h.2.2.2.2.2 (k+1) hlt).2 (by omega))))
       rw [decide_eq_false hc2] at hcmp
       clear hc2
       go_wp2_with fail
       (refine qax ?_;(repeat (first | go_big_quiet_step ((go_at_call 223;exact qav (hcmp _ (hX2 _ _)))) | quiet_step ((go_at_call 223;exact qav (hcmp _ (hX2 _ _))))));refine wpQuiet_nil ?_)
       intro w1 hx1
       go_wp2_with fail
       go_ret
       exact ⟨by rw [HV.out];rfl,(HE0.out.trans' hX).trans' bel⟩
    ·have HV:=Hd (qsw (s:=s) ⟨by rw [HM.out];exact b1,by rw [HM.out];exact b2,b3,b4,HOK.out,fun j h=>hz j (by omega) h⟩)
     clear hz
     go_wp2_with fail
     go_ret
     exact ⟨by rw [HV.out];rfl,HE0.out.trans' hX⟩
theorem qv1 (s:Sy):ckSy s=if qhf s=true then 0 else 8:=by
 by_cases h:qah s
 ·rw [qf5 h,qsw h];rfl
 ·rw [qd9 h,qg2 h];rfl
theorem qhh (S:Nat->Prop) (s:Sy) (cs:List Value) (w:World) (hx:RSy S w s cs) :
  Calls Tryz.prog 83 #[.agg cs.toArray] w fun e w'=>e = .returned (.int .i64 (ckSy s))∧Ext w w':=by
 have hc1:=fun W (hb:Ext w W)=>Is17_c S s cs W (RSy.good.bel hx hb)
 obtain ⟨_,v,u,rfl,hv,hu⟩:=id hx
 obtain ⟨A,c,rfl,hc,hc0⟩:=hv.val
 obtain ⟨A',c',rfl,hc',hc0'⟩:=hu.val
 clear hx hv hu
 have HA:=Hd (qv1 s)
 cases hb:qhf s
 all_goals
  rw [hb] at hc1 HA
  simp only [if_true,Bool.false_eq_true,if_false] at HA
  clear hb
  go_enter Tryz.func83,Tryz.ntmps83
  go_wp2_with fail
  refine (hc1 _ bel).mono ?_
  rintro e w1 ⟨rfl,h1⟩
  go_wp2_with fail
  go_ret
  exact ⟨by rw [HA.out];rfl,bel⟩
end
section

def Tau (s:Sy) (y z:Int):Prop:=∃ j:Fin s.es.length,s.es[j].f=y∧qhv s s.es[j].l = -1∧s.es[j].t=z
theorem qh2 (es:List Ed) (n:Int) (j:Fin es.length):j∈qaw es n↔es[j].f=n:=by simp [qaw,List.mem_filter,List.mem_finRange]
theorem qwi (s:Sy) (l:List Int) (e:Ed) (z:Int):z∈qcx s l e↔z∈l∨(qhv s e.l = -1∧e.t=z):=by
 unfold qcx
 split
 ·rename_i h
  rw [List.mem_append,List.mem_singleton]
  refine or_congr_right ⟨fun e=>⟨h.1,e.symm⟩,fun e=>e.2.symm⟩
 ·rename_i h
  refine ⟨.inl,fun hz=>hz.elim id fun ⟨h1,h2⟩=>?_⟩
  rw [<- h2]
  exact Classical.byContradiction fun hn=>h ⟨h1,hn⟩
theorem qmg (s:Sy) (z:Int):∀ (is:List (Fin s.es.length)) (l:List Int),z∈qbd s is l↔z∈l∨∃ j∈is,qhv s s.es[j].l = -1∧s.es[j].t=z
 | [],l=>by simp [qbd]
 | i :: is,l=>by
  have ih:=qmg s z is (qcx s l s.es[i])
  have e:qbd s (i :: is) l=qbd s is (qcx s l s.es[i]):=rfl
  rw [e,ih,qwi]
  simp only [List.mem_cons,exists_eq_or_imp]
  rw [or_assoc]
theorem qth (s:Sy):∀ (is:List (Fin s.es.length)) (l:List Int),∃ m,qbd s is l=l++m
 | [],l=>⟨[],by simp [qbd]⟩
 | i :: is,l=>by
  obtain ⟨m,hm⟩:=qth s is (qcx s l s.es[i])
  have e:qbd s (i :: is) l=qbd s is (qcx s l s.es[i]):=rfl
  rw [e,hm]
  unfold qcx
  split
  ·exact ⟨_,by rw [List.append_assoc]⟩
  ·exact ⟨m,rfl⟩
theorem qmu (s:Sy):∀ (f i:Nat) (l:List Int),l.length+qcv s l<=i+f->(∀ y∈l.take i,∀ z,Tau s y z->z∈l)->(∀ y∈qbj s f i l,∀ z,Tau s y z->z∈qbj s f i l)∧∀ y∈l,y∈qbj s f i l
 | 0,i,l,hf,hc=>by
  rw [qbj]
  rw [List.take_of_length_le (by omega)] at hc
  exact ⟨hc,fun y h=>h⟩
 | f+1,i,l,hf,hc=>by
  rw [qbj]
  split
  ·rename_i hi
   obtain ⟨m,hm⟩:=qth s (qaw s.es l[i]) l
   have hp:=(qgz s (qaw s.es l[i]) l).1
   have hsub:∀ y∈l,y∈qbd s (qaw s.es l[i]) l:=fun y hy=>(qmg s y _ l).2 (.inl hy)
   have:=qmu s f (i+1) (qbd s (qaw s.es l[i]) l) (by omega) fun y hy z hz=>by
    have ht:(qbd s (qaw s.es l[i]) l).take (i+1)=l.take i++[l[i]]:=by
     rw [hm,List.take_append_of_le_length (by omega),List.take_succ_eq_append_getElem hi]
    rw [ht,List.mem_append,List.mem_singleton] at hy
    rcases hy with hy | hy
    ·exact hsub z (hc y hy z hz)
    ·obtain ⟨j,h1,h2,h3⟩:=hz
     exact (qmg s z _ l).2 (.inr ⟨j,(qh2 _ _ _).2 (h1.trans hy),h2,h3⟩)
   exact ⟨this.1,fun y hy=>this.2 y (hsub y hy)⟩
  ·rw [List.take_of_length_le (by omega)] at hc
   exact ⟨hc,fun y h=>h⟩
theorem qrl (s:Sy) (R:Int->Prop) (hR:∀ y z,R y->Tau s y z->R z):∀ (f i:Nat) (l:List Int),(∀ y∈l,R y)->∀ y∈qbj s f i l,R y
 | 0,i,l,hl=>by rw [qbj];exact hl
 | f+1,i,l,hl=>by
  rw [qbj]
  split
  ·rename_i hi
   refine qrl s R hR f (i+1) _ fun y hy=>?_
   rcases (qmg s y _ l).1 hy with hy | ⟨j,hj,h1,h2⟩
   ·exact hl y hy
   ·exact hR _ y (hl _ (List.getElem_mem hi)) ⟨j,(qh2 _ _ _).1 hj,h1,h2⟩
  ·exact hl
def qoo (s:Sy) (l:List Int):Prop:=∀ y∈l,∀ z,Tau s y z->z∈l
theorem qof (s:Sy) (l:List Int):qoo s (qaq s l):=fun y hy z hz=>by
 unfold qaq at hy ⊢
 rw [qk6] at hy ⊢
 exact (qmu s _ 0 l (by have:=qgd s l;omega) (by simp)).1 y hy z hz
theorem qmo (s:Sy) (l:List Int) (y:Int) (hy:y∈l):y∈qaq s l:=by
 unfold qaq
 rw [qk6]
 exact (qmu s _ 0 l (by have:=qgd s l;omega) (by simp)).2 y hy
theorem qnl (s:Sy) (R:Int->Prop) (hR:∀ y z,R y->Tau s y z->R z) (l:List Int) (hl:∀ y∈l,R y):∀ y∈qaq s l,R y:=fun y hy=>by
 unfold qaq at hy
 rw [qk6] at hy
 exact qrl s R hR _ 0 l hl y hy
theorem qwp (s:Sy) (x:Lb) (l:List Int) (e:Ed) (z:Int):z∈qe5 s x l e↔z∈l∨(qe9 s e.l (fun y=>qa3 y.g && decide (qan y x=0))=true∧e.t=z):=by
 unfold qe5
 split
 ·rename_i h
  rw [List.mem_append,List.mem_singleton]
  refine or_congr_right ⟨fun e=>⟨h.1,e.symm⟩,fun e=>e.2.symm⟩
 ·rename_i h
  refine ⟨.inl,fun hz=>hz.elim id fun ⟨h1,h2⟩=>?_⟩
  rw [<- h2]
  exact Classical.byContradiction fun hn=>h ⟨h1,hn⟩
theorem qq4 (s:Sy) (x:Lb) (z:Int):∀ (is:List (Fin s.es.length)) (l:List Int),z∈qcb s x is l↔z∈l∨∃ j∈is,qe9 s s.es[j].l (fun y=>qa3 y.g && decide (qan y x=0))=true∧s.es[j].t=z
 | [],l=>by simp [qcb]
 | i :: is,l=>by
  have ih:=qq4 s x z is (qe5 s x l s.es[i])
  have e:qcb s x (i :: is) l=qcb s x is (qe5 s x l s.es[i]):=rfl
  rw [e,ih,qwp]
  simp only [List.mem_cons,exists_eq_or_imp]
  rw [or_assoc]
theorem qpg (s:Sy) (x:Lb) (sts:List Int) (z:Int):z∈qch s x sts↔∃ j:Fin s.es.length,s.es[j].f∈sts∧qe9 s s.es[j].l (fun y=>qa3 y.g && decide (qan y x=0))=true∧s.es[j].t=z:=by
 have:∀ (sts l:List Int),z∈sts.foldl (fun l st=>qcb s x (qaw s.es st) l) l↔z∈l∨∃ j:Fin s.es.length,s.es[j].f∈sts∧qe9 s s.es[j].l (fun y=>qa3 y.g && decide (qan y x=0))=true∧s.es[j].t=z:=by
  intro sts
  induction sts with
  | nil=>intro l;simp
  | cons st sts ih =>
   intro l
   rw [List.foldl_cons,ih,qq4,or_assoc]
   refine or_congr_right ⟨?_,?_⟩
   ·rintro (⟨j,hj,h⟩ | ⟨j,hj,h⟩)
    ·exact ⟨j,by rw [(qh2 _ _ _).1 hj];simp,h⟩
    ·exact ⟨j,List.mem_cons_of_mem _ hj,h⟩
   ·rintro ⟨j,hj,h⟩
    rcases List.mem_cons.1 hj with hj | hj
    ·exact .inl ⟨j,(qh2 _ _ _).2 hj,h⟩
    ·exact .inr ⟨j,hj,h⟩
 rw [qch,this]
 simp
theorem qt9 (s:Sy):qao s []≠[]:=fun h=>by
 have:=qmo s [0] 0 (by simp)
 rw [show qaq s [0]=qao s [] from rfl,h] at this
 cases this
end
end Go.Proofs.YtegenalcheooeaaGreat
