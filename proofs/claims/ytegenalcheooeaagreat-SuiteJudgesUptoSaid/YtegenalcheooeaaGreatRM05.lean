/- Of the proof of a law of the suites: RHas, PRefB. -/
import Derived.Test.YtegenalcheooeaaGreatB05
import Derived.Test.YtegenalcheooeaaGreatRM02
import Derived.Test.YtegenalcheooeaaGreatRM04
set_option linter.unusedSectionVars false
set_option linter.unusedSimpArgs false
set_option linter.unusedVariables false
namespace Go.Proofs.YtegenalcheooeaaGreat
open Go.RowKit
attribute [local go_sem] cell?_exto
section
set_option maxHeartbeats 4000000
set_option maxRecDepth 100000
/- The reference's has,accepts and refuses: walked. -/
open Go.Shelf
def hasB (l:List Lb) (x:Lb):Bool:=l.any fun y=>qcz y x
theorem hasB_take {l:List Lb} {x:Lb} {k:Nat} (h:k<l.length):hasB (l.take (k+1)) x=(hasB (l.take k) x || qcz l[k] x):=by
 rw [hasB,hasB,List.take_succ_eq_append_getElem h,List.any_append,List.any_cons,List.any_nil,Bool.or_false]
theorem hasB_yes {l:List Lb} {x:Lb} {k:Nat} (h:k<l.length) (hs:qcz l[k] x=true):hasB l x=true:=List.any_eq_true.2 ⟨l[k],List.getElem_mem h,hs⟩
theorem has_c (S:Nat->Prop) (l:List Lb) (v:Value) (x:Lb) (cx:List Value) (w:World) (hl:qaa S w l [v]) (hlx:RLb S w x cx) :
  Calls Tryz.prog 233 #[v,.agg cx.toArray] w fun e w'=>e = .returned (.bool (hasB l x))∧Ext w w':=by
 have HX:=Hd hl
 have HLX:=Hd hlx
 obtain ⟨A,c,rfl,hc,hc0⟩:=hl.val
 obtain ⟨_,vx,rfl,hvx⟩:=id hlx
 obtain ⟨gx,hgx⟩:∃ gx,x.g=gx:=⟨_,rfl⟩
 rw [hgx]
 rw [hgx] at HLX
 obtain ⟨W0,hW0⟩:∃ W0,w.alloc (.cells #[.int .i64 gx,vx] 61)=W0:=⟨_,rfl⟩
 have hB0:qag W0 w.heap.size 61 [.int .i64 gx,vx]:=by rw [<- hW0];exact qag.new w 61 _
 have hE0:Ext w W0:=by rw [<- hW0];exact (Ext.refl w).alloc _
 have HB0:=Hd hB0
 have HE0:=Hd hE0
 have HW0:=Hd hW0
 clear hl hlx hvx hgx hB0 hE0 hW0
 go_enter Tryz.func233,Tryz.ntmps233
 go_upto_region 1 with (fail)
 rw [HW0.out]
 go_wp2_with fail
 go_loopw [5] (fun vi wr=>∃ k:Nat,k<=l.length∧vi = .int .i64 k∧Ext W0 wr∧Hid (hasB (l.take k) x=false)) (fun vi _=>l.length-(intOf vi).toNat)
 case atStart=>exact ⟨0,Nat.zero_le _,rfl,Ext.refl _,(rfl:hasB [] x=false)⟩
 case round =>
  obtain ⟨k,hk,rfl,hE,hno⟩:=hrel
  have hE':Ext w wr:=HE0.out.trans' hE
  have hbx:=HB0.out.ext hE
  have y0:=hbx.cell 0 _
  have y1:=hbx.cell 1 _
  have yz:=hbx.lt
  clear hbx
  by_cases hlt:k<l.length
  ·obtain ⟨b,off,cs,rfl,hb,hS,hl,hr,hcell⟩:=(qaa.good.bel HX.out hE').get k hlt
   have hsame:=fun W (hW:Ext wr W)=>qnd S _ x _ _ W (RLb.good.bel hr hW) (RLb.good.bel HLX.out (hE'.trans' hW))
   obtain ⟨_,v3,rfl,hv3⟩:=id hr
   have a0:=hcell.get 0 _
   have a1:=hcell.get 1 _
   simp only [Nat.add_zero] at a0
   have HTK:=Hd (hasB_take (x:=x) hlt)
   have hY:=hasB_yes (x:=x) hlt
   have hk1:k+1<=l.length:=hlt
   obtain ⟨q1,hq1⟩:∃ q1,l[k].g=q1:=⟨_,rfl⟩
   rw [hq1] at hsame a0
   obtain ⟨bs,hbs⟩:∃ bs,qcz l[k] x=bs:=⟨_,rfl⟩
   rw [hbs] at hsame HTK hY
   have hX2:∀ (y:World),Ext wr (qam wr y):=fun y=>qbg _ y
   clear hcell hl hS hr hv3 hq1 hbs
   cases bs
   ·clear hY
    go_wp2_with fail
    (refine qax ?_;(repeat (first | go_big_quiet_step ((go_at_call 133;exact qav (hsame _ (hX2 _)))) | quiet_step ((go_at_call 133;exact qav (hsame _ (hX2 _))))));refine wpQuiet_nil ?_)
    intro w4 hx4
    go_wp2_with fail
    go_roundw
    case rel=>exact ⟨k+1,hk1,by go_num,hE.trans' hx4,(by rw [HTK.out,hno.out];rfl:hasB (l.take (k+1)) x=false)⟩
    case measure=>simp [intOf];omega
   ·have HY:=Hd (hY rfl)
    clear hY
    go_wp2_with fail
    (refine qax ?_;(repeat (first | go_big_quiet_step ((go_at_call 133;exact qav (hsame _ (hX2 _)))) | quiet_step ((go_at_call 133;exact qav (hsame _ (hX2 _))))));refine wpQuiet_nil ?_)
    intro w4 hx4
    go_wp2_with fail
    go_ret
    exact ⟨by rw [HY.out];rfl,hE'.trans' hx4⟩
  ·obtain rfl:k=l.length:=by omega
   have HF:Hid (hasB l x=false):=by have h:=hno.out;rw [List.take_length] at h;exact h
   go_wp2_with fail
   go_ret
   exact ⟨by rw [HF.out];rfl,hE'⟩
def qfu (s:Sy) (bs:List Bool) (l:List Lb) (k:Nat):Bool:=(List.range k).any fun i=>qcy bs i && (match s.ls[i]? with | some y=>hasB l y | none=>false)
def qff (s:Sy) (n st:Nat) (l:List Lb):Bool:=qfu s (qex s n st) l s.ls.length
theorem acp_succ (s:Sy) (bs:List Bool) (l:List Lb) (k:Nat):qfu s bs l (k+1)=(qfu s bs l k || (qcy bs k && (match s.ls[k]? with | some y=>hasB l y | none=>false))):=by
 rw [qfu,qfu,List.range_succ,List.any_append,List.any_cons,List.any_nil,Bool.or_false]
theorem acp_yes (s:Sy) (bs:List Bool) (l:List Lb) {k m:Nat} (h:k<m) (hb:(qcy bs k && (match s.ls[k]? with | some y=>hasB l y | none=>false))=true):qfu s bs l m=true :=
 List.any_eq_true.2 ⟨k,List.mem_range.2 h,hb⟩
theorem quc (S:Nat->Prop) (s:Sy) (hok:qah s) (cs:List Value) (n st:Nat) (hn:s.n=(n:Int)) (hst:st<n) (l:List Lb) (v:Value) (w:World) (hx:RSy S w s cs) (hl:qaa S w l [v]) :
  Calls Tryz.prog 173 #[.agg cs.toArray,.int .i64 (st:Int),v] w fun e w'=>e = .returned (.bool (qff s n st l))∧Ext w w':=by
 have hll:=hok.2.2.1
 have hac:=fun W (hW:Ext w W)=>qt5 S s hok cs n st hn hst W (RSy.good.bel hx hW)
 have hlen:=qhp s n st
 have HVAL:Hid (qff s n st l=qfu s (qex s n st) l s.ls.length):=rfl
 obtain ⟨BS,hBS⟩:∃ BS,qex s n st=BS:=⟨_,rfl⟩
 rw [hBS] at hac hlen HVAL
 obtain ⟨_,v1,u1,rfl,hv,hu⟩:=id hx
 obtain ⟨Al,cl,rfl,hcl1,hcl0⟩:=hv.val
 obtain ⟨Ae,ce,rfl,hce,hce0⟩:=hu.val
 obtain ⟨A,c,rfl,hc,hc0⟩:=hl.val
 have HLB:=Hd hv
 have HL:=Hd hl
 rw [hn] at hac ⊢
 obtain ⟨m,hm⟩:∃ m,s.ls.length=m:=⟨_,rfl⟩
 rw [hm] at hac hlen HVAL hcl1 hll ⊢
 have HM0:=Hd hm
 have HLN:=Hd hlen
 clear hx hv hu hn hok hBS hl hm hlen
 obtain ⟨W0,hW0⟩:∃ W0,w.alloc (.cells #[.int .i64 (n:Int),.slice Al m cl,.slice Ae s.es.length ce] 25)=W0:=⟨_,rfl⟩
 have hE0:Ext w W0:=by rw [<- hW0];exact (Ext.refl w).alloc _
 have hb0:qag W0 w.heap.size 25 [.int .i64 (n:Int),.slice Al m cl,.slice Ae s.es.length ce]:=by rw [<- hW0];exact qag.new w 25 _
 have x0:=hb0.cell 0 _
 have x1:=hb0.cell 1 _
 have x2:=hb0.cell 2 _
 have xz:=hb0.lt
 have HB0:=Hd hb0
 have HE0:=Hd hE0
 have HW0:=Hd hW0
 have hac0:=hac W0 hE0
 clear hb0 hE0 hW0 hac
 go_enter Tryz.func173,Tryz.ntmps173
 go_upto_region 1 with (fail)
 rw [HW0.out]
 go_wp2_with fail
 refine hac0.mono ?_
 rintro e w1 ⟨A1,c1,rfl,ho,h1⟩
 have HE1:Hid (Ext w w1):=HE0.out.trans' h1
 have HM:Hid (RSl qad 1 (fun _=>True) w1 BS [.slice A1 m c1]):=(RSl.good qad.good).mono (ho.sl qad.good (by decide)) fun _ _ _=>trivial
 have HB1:=Hd (HB0.out.ext h1)
 have hm1:=HLN.out
 clear ho x0 x1 x2 xz
 go_wp2_with fail
 go_loopw [8] (fun vi wr=>∃ k:Nat,k<=m∧vi = .int .i64 k∧Ext w1 wr∧Hid (qfu s BS l k=false)) (fun vi _=>m-(intOf vi).toNat)
 case atStart=>exact ⟨0,Nat.zero_le _,rfl,Ext.refl _,(rfl:qfu s BS l 0=false)⟩
 case round =>
  obtain ⟨k,hk,rfl,hE,hno⟩:=hrel
  have hE':Ext w wr:=HE1.out.trans' hE
  have hbx:=HB1.out.ext hE
  have x0:=hbx.cell 0 _
  have x1:=hbx.cell 1 _
  have x2:=hbx.cell 2 _
  have xz:=hbx.lt
  clear hbx
  by_cases hlt:k<m
  ·have hkb:k<BS.length:=by omega
   have hks:k<s.ls.length:=by have:=HM0.out;omega
   have HST:=Hd (acp_succ s BS l k)
   have hY:=acp_yes s BS l hlt
   rw [qd1 hkb,List.getElem?_eq_getElem hks] at HST hY
   simp only at HST hY
   obtain ⟨bb,ob,cb2,hAb,hbb,_,_,hrb,hcb2⟩:=((RSl.good qad.good).bel HM.out hE).get k hkb
   subst hAb
   obtain rfl:cb2=[.bool BS[k]]:=hrb
   have d0:=hcb2.get 0 _
   simp only [Nat.add_zero,Nat.mul_one] at d0
   obtain ⟨bl,ol,cl2,hAl,hbl,_,_,hrl,hcl2⟩:=(qaa.good.bel HLB.out hE').get k hks
   subst hAl
   have hhas:=fun W (hW:Ext wr W)=>has_c S l _ _ _ W (qaa.good.bel HL.out (hE'.trans' hW)) (RLb.good.bel hrl hW)
   obtain ⟨_,vl,rfl,hvl⟩:=id hrl
   have l0:=hcl2.get 0 _
   have l1:=hcl2.get 1 _
   simp only [Nat.add_zero] at l0
   have hk1:k+1<=m:=hlt
   have z1:(0:Int)<=(k:Int):=by omega
   have z2:(k:Int)<(m:Int):=by omega
   obtain ⟨gl,hgl⟩:∃ gl,s.ls[k].g=gl:=⟨_,rfl⟩
   rw [hgl] at hhas l0
   obtain ⟨bf,hbf⟩:∃ bf,BS[k]=bf:=⟨_,rfl⟩
   rw [hbf] at d0 HST hY
   obtain ⟨bh,hbh⟩:∃ bh,hasB l s.ls[k]=bh:=⟨_,rfl⟩
   rw [hbh] at hhas HST hY
   clear hcb2 hcl2 hrl hvl hgl hbf hbh
   cases bf
   ·clear hhas hY
    go_wp2_with fail
    go_roundw
    case rel=>exact ⟨k+1,hk1,by go_num,hE,(by rw [HST.out,hno.out];rfl:qfu s BS l (k+1)=false)⟩
    case measure=>simp [intOf];omega
   ·cases bh
    ·clear hY
     go_wp2_with fail
     refine (hhas _ bel).mono ?_
     rintro e w4 ⟨rfl,hx4⟩
     go_wp2_with fail
     go_roundw
     case rel=>exact ⟨k+1,hk1,by go_num,hE.trans' hx4,(by rw [HST.out,hno.out];rfl:qfu s BS l (k+1)=false)⟩
     case measure=>simp [intOf];omega
    ·have HY:Hid (qff s n st l=true):=by show _=_;rw [HVAL.out];exact hY rfl
     clear hY
     go_wp2_with fail
     refine (hhas _ bel).mono ?_
     rintro e w4 ⟨rfl,hx4⟩
     go_wp2_with fail
     go_ret
     exact ⟨by rw [HY.out];rfl,hE'.trans' hx4⟩
  ·obtain rfl:k=m:=by omega
   have HF:Hid (qff s n st l=false):=by show _=_;rw [HVAL.out];exact hno.out
   go_wp2_with fail
   go_ret
   exact ⟨by rw [HF.out];rfl,hE'⟩
def qda (s:Sy) (n:Nat) (bs:List Bool) (l:List Lb) (k:Nat):Bool:=(List.range k).any fun i=>qcy bs i && !qff s n i l
theorem qvm (s:Sy) (n:Nat) (bs:List Bool) (l:List Lb) (k:Nat):qda s n bs l (k+1)=(qda s n bs l k || (qcy bs k && !qff s n k l)):=by
 rw [qda,qda,List.range_succ,List.any_append,List.any_cons,List.any_nil,Bool.or_false]
theorem qu6 (s:Sy) (n:Nat) (bs:List Bool) (l:List Lb) {k m:Nat} (h:k<m) (hb:(qcy bs k && !qff s n k l)=true):qda s n bs l m=true :=
 List.any_eq_true.2 ⟨k,List.mem_range.2 h,hb⟩
theorem qro (S:Nat->Prop) (s:Sy) (hok:qah s) (cs:List Value) (n:Nat) (hn:s.n=(n:Int)) (bs:List Bool) (hbl:bs.length=n) (l:List Lb) (vb v:Value) (w:World) (hx:RSy S w s cs) (hm:RSl qad 1 S w bs [vb]) (hl:qaa S w l [v]) :
  Calls Tryz.prog 110 #[.agg cs.toArray,vb,v] w fun e w'=>e = .returned (.bool (qda s n bs l n))∧Ext w w':=by
 have hn1:n<=20000:=by have:=hok.2.1;omega
 have hac:=fun st hst W (hW:Ext w W)=>quc S s hok cs n st hn hst l v W (RSy.good.bel hx hW) (qaa.good.bel hl hW)
 obtain ⟨_,v1,u1,rfl,hv,hu⟩:=id hx
 obtain ⟨Al,cl,rfl,hcl1,hcl0⟩:=hv.val
 obtain ⟨Ae,ce,rfl,hce,hce0⟩:=hu.val
 obtain ⟨Ab,cb,rfl,hcb,hcb0⟩:=hm.val
 obtain ⟨A,c,rfl,hc,hc0⟩:=hl.val
 have HM:=Hd hm
 rw [hn] at hac ⊢
 rw [hbl] at hcb HM ⊢
 have HBL:=Hd hbl
 have HAC:=Hd hac
 clear hx hv hu hn hok hl hm hbl hac
 obtain ⟨W0,hW0⟩:∃ W0,w.alloc (.cells #[.int .i64 (n:Int),.slice Al s.ls.length cl,.slice Ae s.es.length ce] 25)=W0:=⟨_,rfl⟩
 have hE0:Ext w W0:=by rw [<- hW0];exact (Ext.refl w).alloc _
 have hb0:qag W0 w.heap.size 25 [.int .i64 (n:Int),.slice Al s.ls.length cl,.slice Ae s.es.length ce]:=by rw [<- hW0];exact qag.new w 25 _
 have HB0:=Hd hb0
 have HE0:=Hd hE0
 have HW0:=Hd hW0
 clear hb0 hE0 hW0
 go_enter Tryz.func110,Tryz.ntmps110
 go_upto_region 1 with (fail)
 rw [HW0.out]
 go_wp2_with fail
 go_loopw [7] (fun vi wr=>∃ k:Nat,k<=n∧vi = .int .i64 k∧Ext W0 wr∧Hid (qda s n bs l k=false)) (fun vi _=>n-(intOf vi).toNat)
 case atStart=>exact ⟨0,Nat.zero_le _,rfl,Ext.refl _,(rfl:qda s n bs l 0=false)⟩
 case round =>
  obtain ⟨k,hk,rfl,hE,hno⟩:=hrel
  have hE':Ext w wr:=HE0.out.trans' hE
  have hbx:=HB0.out.ext hE
  have x0:=hbx.cell 0 _
  have x1:=hbx.cell 1 _
  have x2:=hbx.cell 2 _
  have xz:=hbx.lt
  clear hbx
  by_cases hlt:k<n
  ·have hkb:k<bs.length:=by have:=HBL.out;omega
   have HST:=Hd (qvm s n bs l k)
   have hY:=qu6 s n bs l hlt
   rw [qd1 hkb] at HST hY
   obtain ⟨bb,ob,cb2,hAb,hbb,_,_,hrb,hcb2⟩:=((RSl.good qad.good).bel HM.out hE').get k hkb
   subst hAb
   obtain rfl:cb2=[.bool bs[k]]:=hrb
   have d0:=hcb2.get 0 _
   simp only [Nat.add_zero,Nat.mul_one] at d0
   have hacp:=fun W (hW:Ext wr W)=>HAC.out k hlt W (hE'.trans' hW)
   have hk1:k+1<=n:=hlt
   have z1:(0:Int)<=(k:Int):=by omega
   have z2:(k:Int)<(n:Int):=by omega
   obtain ⟨bf,hbf⟩:∃ bf,bs[k]=bf:=⟨_,rfl⟩
   rw [hbf] at d0 HST hY
   obtain ⟨bh,hbh⟩:∃ bh,qff s n k l=bh:=⟨_,rfl⟩
   rw [hbh] at hacp HST hY
   clear hcb2 hbf hbh
   cases bf
   ·clear hacp hY
    go_wp2_with fail
    go_roundw
    case rel=>exact ⟨k+1,hk1,by go_num,hE,(by rw [HST.out,hno.out];rfl:qda s n bs l (k+1)=false)⟩
    case measure=>simp [intOf];omega
   ·cases bh
    ·have HY:=Hd (hY rfl)
     clear hY
     go_wp2_with fail
     refine (hacp _ bel).mono ?_
     rintro e w4 ⟨rfl,hx4⟩
     go_wp2_with fail
     go_ret
     exact ⟨by rw [HY.out];rfl,hE'.trans' hx4⟩
    ·clear hY
     go_wp2_with fail
     refine (hacp _ bel).mono ?_
     rintro e w4 ⟨rfl,hx4⟩
     go_wp2_with fail
     go_roundw
     case rel=>exact ⟨k+1,hk1,by go_num,hE.trans' hx4,(by rw [HST.out,hno.out];rfl:qda s n bs l (k+1)=false)⟩
     case measure=>simp [intOf];omega
  ·obtain rfl:k=n:=by omega
   have HF:=hno
   go_wp2_with fail
   go_ret
   exact ⟨by rw [HF.out];rfl,hE'⟩
end
section

theorem one_marks {n st:Nat} (h:st<n):(List.replicate n false).set st true=marksOf n [(st:Int)]:=by
 rw [<- qlj,qjl]
 rfl
theorem acX_iff (s:Sy) (bs:List Bool) (y:Int):y∈acX s bs s.es.length↔∃ j:Fin s.es.length,acB s bs s.es[j]=true∧s.es[j].l=y:=by
 rw [acX,List.take_length,List.mem_map]
 constructor
 ·rintro ⟨e,he,rfl⟩
  obtain ⟨h1,h2⟩:=List.mem_filter.1 he
  obtain ⟨i,hi,rfl⟩:=List.getElem_of_mem h1
  exact ⟨⟨i,hi⟩,h2,rfl⟩
 ·rintro ⟨j,h,rfl⟩
  exact ⟨s.es[j],List.mem_filter.2 ⟨List.getElem_mem _,h⟩,rfl⟩
theorem qlf {s:Sy} (hok:qah s) {n st:Nat} (hn:s.n=(n:Int)) (hst:st<n) {k:Nat} (hk:k<s.ls.length) :
  qcy (qex s n st) k=true↔qa3 s.ls[k].g=true∧∃ y∈qaq s [(st:Int)],∃ j∈qaw s.es y,s.es[j].l=(k:Int):=by
 have hin:=qlz hok [(st:Int)] fun y hy=>by rw [List.mem_singleton.1 hy];omega
 rw [qd1 (by rw [qhp];exact hk)]
 unfold qex
 rw [qep,decide_eq_true_eq,acX_iff,one_marks hst,qo6 s n hn _ fun y hy=>by rw [List.mem_singleton.1 hy];omega]
 have hac:∀ j:Fin s.es.length,s.es[j].l=(k:Int)->(acB s (marksOf n (qaq s [(st:Int)])) s.es[j]=true↔s.es[j].f∈qaq s [(st:Int)]∧qa3 s.ls[k].g=true):=fun j hj=>by
  obtain ⟨h1,h2,_⟩:=qji hok j
  obtain ⟨fi,hfi⟩:∃ fi:Nat,s.es[j].f=(fi:Int):=⟨s.es[j].f.toNat,by omega⟩
  have hf:fi<(marksOf n (qaq s [(st:Int)])).length:=by rw [qb2];omega
  rw [acB,hfi,hj,Int.toNat_natCast,Int.toNat_natCast,qd1 hf,qep,List.getElem?_eq_getElem hk]
  simp only [Bool.and_eq_true,decide_eq_true_eq]
 constructor
 ·rintro ⟨j,h,hl⟩
  obtain ⟨h1,h2⟩:=(hac j hl).1 h
  exact ⟨h2,_,h1,j,(qh2 _ _ _).2 rfl,hl⟩
 ·rintro ⟨hv,y,hy,j,hj,hl⟩
  rw [qh2] at hj
  exact ⟨j,(hac j hl).2 ⟨by rw [hj];exact hy,hv⟩,hl⟩
theorem qtb (l:List Lb) (x:Lb):hasB l x=true↔x∈l:=by
 rw [hasB,List.any_eq_true]
 constructor
 ·rintro ⟨y,hy,h⟩
  rw [qcz,decide_eq_true_eq,qc2.iff] at h
  rw [<- h]
  exact hy
 ·exact fun h=>⟨x,h,by rw [qcz,decide_eq_true_eq];exact qc2.refl x⟩
theorem ql2 {s:Sy} (hok:qah s) {n st:Nat} (hn:s.n=(n:Int)) (hst:st<n) {l:List Lb} (hl:Inc l):qff s n st l=qel (qbh s (st:Int)) l:=by
 rw [Bool.eq_iff_iff,qj2 hl,qff,qfu,List.any_eq_true]
 constructor
 ·rintro ⟨k,hk,h⟩
  have hk':=List.mem_range.1 hk
  rw [List.getElem?_eq_getElem hk',Bool.and_eq_true] at h
  obtain ⟨hv,hx⟩:=(qlf hok hn hst hk').1 h.1
  exact ⟨s.ls[k],(qkd s _ _).2 ⟨k,hk',rfl,hv,hx⟩,(qtb _ _).1 h.2⟩
 ·rintro ⟨x,hx,hxl⟩
  obtain ⟨k,hk,rfl,hv,hx⟩:=(qkd s _ _).1 hx
  refine ⟨k,List.mem_range.2 hk,?_⟩
  rw [List.getElem?_eq_getElem hk,Bool.and_eq_true]
  exact ⟨(qlf hok hn hst hk).2 ⟨hv,hx⟩,(qtb _ _).2 hxl⟩
theorem qus {s:Sy} (hok:qah s) {n:Nat} (hn:s.n=(n:Int)) {L:List Int} (hL:∀ y∈L,0<=y∧y<s.n) {l:List Lb} (hl:Inc l):qda s n (marksOf n L) l n=qb5 s L l:=by
 rw [Bool.eq_iff_iff,qb5,qda,List.any_eq_true,List.any_eq_true]
 constructor
 ·rintro ⟨k,hk,h⟩
  have hk':=List.mem_range.1 hk
  rw [qd1 (by rw [qb2];exact hk'),qep,Bool.and_eq_true,decide_eq_true_eq,ql2 hok hn hk' hl] at h
  exact ⟨(k:Int),h.1,h.2⟩
 ·rintro ⟨t,ht,h⟩
  have:=hL t ht
  obtain ⟨k,rfl⟩:∃ k:Nat,t=(k:Int):=⟨t.toNat,by omega⟩
  have hk:k<n:=by omega
  refine ⟨k,List.mem_range.2 hk,?_⟩
  rw [qd1 (by rw [qb2];exact hk),qep,Bool.and_eq_true,decide_eq_true_eq,ql2 hok hn hk hl]
  exact ⟨ht,h⟩
theorem set_inc {l:List Lb} (h:qbm l=true):Inc l:=by
 rw [qbm,Bool.and_eq_true,Bool.and_eq_true] at h
 exact (ql6 l).1 h.1.1
theorem ql4 {tr:List Lb} (h:qa8 tr=true):∀ x∈tr,qa3 x.g=true:=fun x hx=>by
 rw [qa8,Bool.and_eq_true,List.all_eq_true] at h
 have:=h.2 x hx
 rw [okV,Bool.and_eq_true] at this
 exact this.2
theorem qpk {s:Sy} (hok:qah s) {n:Nat} (hn:s.n=(n:Int)) {tr l:List Lb} (ht:qa8 tr=true) (hl:Inc l):qda s n (qa2 s n tr) l n=qb5 s (qao s tr) l:=by
 rw [qkh hok hn tr (ql4 ht)]
 exact qus hok hn (qle hok tr) hl
end
end Go.Proofs.YtegenalcheooeaaGreat
