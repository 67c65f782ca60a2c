/- Of the proof of a law of the suites: LawAfter. -/
import Derived.Test.YtegenalcheooeaaGreatAF06
import Derived.Test.YtegenalcheooeaaGreatAF07
import Derived.Test.YtegenalcheooeaaGreatAF08
import Derived.Test.YtegenalcheooeaaGreatB07
import Derived.Test.YtegenalcheooeaaGreatB26
import Derived.Deep.CutBlock
set_option linter.unusedSectionVars false
set_option linter.unusedSimpArgs false
set_option linter.unusedVariables false
namespace Go.Proofs.YtegenalcheooeaaGreat
open Go.RowKit
attribute [local go_sem] cell?_exto
section
set_option maxHeartbeats 8000000
set_option maxRecDepth 100000
/- SuiteAfter: walked. -/
open Go.Shelf
def TrueP (w:World) (e:Ending) (w':World):Prop:=e = .returned (.bool true)∧Ext w w'
theorem qd6 {W W':World} {B:Nat} {t:TypeId} {a b c:Value} (h:qae W B t [a,b,c]) (he:Ext W W') :
  qae W' B t [a,b,c]∧W'.cell? ⟨B,0,none⟩=some a∧W'.cell? ⟨B,1,none⟩=some b∧W'.cell? ⟨B,2,none⟩=some c∧B<W'.heap.size :=
 have h0:=h.ext he
 ⟨h0,h0.cell 0 _,h0.cell 1 _,h0.cell 2 _,h0.lt⟩
theorem qhk {W:World} {base:Nat} {T:Nat->Prop} {xs:List Int} {v:Value} (h:qab qac 1 3 base T W xs v):RSl qac 1 (fun _=>True) W xs [v]:=(RSl.good qac.good).mono (h.sl qac.good (by decide)) fun _ _ _=>trivial
theorem lbs_nil (S:Nat->Prop) (w:World):qaa S w [] [.slice none 0 0]:=⟨none,0,rfl,Nat.le_refl _,by decide,.inl rfl⟩
theorem qun (s:Sy):(0:Int)∈qal s []:=qhv s [0] 0 (by simp)
theorem afterE_ok {s:Sy} {tr:List Lb} (h:qdh s tr=0):qai s∧qbq tr=true∧qd1 s tr=qal s tr:=by
 unfold qdh at h
 split at h
 ·rename_i hok
  split at h
  ·rename_i ht
   exact ⟨hok,ht,if_pos ⟨hok,ht⟩⟩
  ·cases h
 ·cases h
theorem qkj {s:Sy} {tr:List Lb} (h:qai s) (ht:qbq tr=true):qdh s tr=0∧qd1 s tr=qal s tr:=⟨by rw [qdh,if_pos h,if_pos ht],if_pos ⟨h,ht⟩⟩
theorem i64_01:I64 1∧I64 0:=by constructor <;> (unfold I64;omega)
theorem info3z:(Tryz.prog.info? 3).map (fun i=>(i.zero,i.size,i.bytes))=some (some (.int .i64 0),1,8):=by kernel_rfl
theorem eg62:∀ args w,(callFunc 62 args).run Tryz.prog w = .ok (.enter 62 args) w:=enters_of Tryz.func62 (by kernel_rfl) rfl
theorem in1_c (all:List Int) (va:Value) (B:Nat) (x:Int) (cs:List Value) (w:World) (hx:qac (fun _=>True) w x cs) (ha:RSl qac 1 (fun _=>True) w all [va]) (hB:w.cell? ⟨B,0,none⟩=some va) :
  Calls Tryz.prog 62 #[cs.headD undef,.pointer (some ⟨B,0,none⟩)] w fun e w'=>e = .returned (.bool (!(decide (x∈all))))∧Ext w w':=by
 have hc:=fun W (hW:Ext w W)=>qg7 (fun _=>True) all x va W ((RSl.good qac.good).bel ha hW)
 obtain ⟨rfl,jx⟩:=hx
 obtain ⟨A,c,rfl,_,_⟩:=ha.val
 clear ha
 simp only [List.headD_cons]
 go_enter Tryz.func62,Tryz.ntmps62
 go_wp2_with fail
 refine (hc _ bel).mono ?_
 rintro e w1 ⟨rfl,rfl⟩
 go_wp2_with fail
 go_ret
 exact ⟨rfl,bel⟩
theorem after10_c (w:World) (s:Sy) (hsm:qev s) (cs:List Value) (hx:RSy (fun _=>True) w s cs) (tr:List Lb) (htl:tr.length<=1048576) (vt:Value) (htr:qaa (fun _=>True) w tr [vt]) (d:Int) :
  Calls Tryz.prog 10 #[.agg cs.toArray,vt,.int .i64 d] w (TrueP w):=by
 obtain ⟨_,v,u,rfl,hv,hu⟩:=id hx
 obtain ⟨A,c,rfl,_,_⟩:=hv.val
 obtain ⟨B,b,rfl,_,_⟩:=hu.val
 obtain ⟨A3,c3,rfl,hc3,hc30⟩:=htr.val
 have HX:=Hd hx
 have HTR:=Hd htr
 have HLS:=Hd hv
 have HES:=Hd hu
 clear hx htr hv hu
 go_enter Tryz.func10,Tryz.ntmps10
 go_wp2_with fail
 refine (sane_c _).mono ?_
 rintro e1 w1 ⟨rfl,h1⟩
 have HX1:Hid (Ext w w1):=bel
 obtain ⟨hB,d0,d1,d2,z1⟩:=qd6 (B:=w.heap.size) (t:=25) (qae.new w 25 [.int .i64 s.n,.slice A s.ls.length c,.slice B s.es.length b]) h1
 have HB:=Hd hB
 clear h1 hB
 have hsml:=fun W (hW:Ext w1 W)=>small2_c (fun _=>True) 10 [s] _ _ (qip RSy.good (by decide) (e:=25) (flat1 (RSy.good.bel HX.out (HX1.out.trans' hW)) rfl) (by simp))
 go_wp2_with fail
 refine (hsml _ (Ext.refl _)).mono ?_
 rintro e3 w3 ⟨bb,rfl,h3,hbig⟩
 have HBIG:=Hd hbig
 have hE3:Ext w1 w3:=Ext.trans' ((Ext.refl w1).alloc _) h3
 have HX3:Hid (Ext w w3):=HX1.out.trans' hE3
 clear d0 d1 d2 z1 hbig
 obtain ⟨hB,d0,d1,d2,z1⟩:=qd6 HB.out hE3
 have HB3:=Hd hB
 clear hsml h3 hE3 hB HX1 HB
 cases bb
 ·go_wp2_with fail
  go_ret
  exact ⟨rfl,HX3.out⟩
 obtain ⟨hl16,he120⟩:=HBIG.out rfl s (by simp)
 clear HBIG
 by_cases h40:(40:Int)<(tr.length:Int)
 ·go_wp2_with fail
  go_ret
  exact ⟨rfl,HX3.out⟩
 have hsl:=qnb (fun _=>True) tr _ w3 (qaa.good.bel HTR.out HX3.out) (by omega)
 go_wp2_with fail
 refine hsl.mono ?_
 rintro e4 w4 ⟨rfl,hE4⟩
 have HX4:Hid (Ext w w4):=HX3.out.trans' hE4
 clear d0 d1 d2 z1
 obtain ⟨hB,d0,d1,d2,z1⟩:=qd6 HB3.out hE4
 have HB4:=Hd hB
 clear hsl hE4 hB HX3 HB3
 cases hbb:qe5 tr
 ·clear hbb
  go_wp2_with fail
  go_ret
  exact ⟨rfl,HX4.out⟩
 clear hbb
 have hck:=qnl (fun _=>True) s _ w4 (RSy.good.bel HX.out HX4.out)
 by_cases hok:qai s
 rotate_left
 ·rw [show ckSy s=8 from if_neg hok] at hck
  go_wp2_with fail
  refine hck.mono ?_
  rintro e6 w6 ⟨rfl,hE6⟩
  go_wp2_with fail
  go_ret
  exact ⟨rfl,HX4.out.trans' hE6⟩
 rw [show ckSy s=0 from if_pos hok] at hck
 have HOK:=Hd hok
 clear hok
 go_wp2_with fail
 refine hck.mono ?_
 rintro e5 w5 ⟨rfl,hE5⟩
 have HX5:Hid (Ext w w5):=HX4.out.trans' hE5
 clear d0 d1 d2 z1
 obtain ⟨hB,d0,d1,d2,z1⟩:=qd6 HB4.out hE5
 have HB5:=Hd hB
 clear hck hE5 hB HX4 HB4
 have haf:=qkr (fun _=>True) s _ tr _ w5 (RSy.good.bel HX.out HX5.out) (qaa.good.bel HTR.out HX5.out)
 by_cases hE0:qdh s tr=0
 rotate_left
 ·have hE':(qdh s tr == 0)=false:=beq_eq_false_iff_ne.2 hE0
  obtain ⟨aE,haE⟩:∃ x,qdh s tr=x:=⟨_,rfl⟩
  obtain ⟨aR,haR⟩:∃ x,qd1 s tr=x:=⟨_,rfl⟩
  rw [haE,haR] at haf
  rw [haE] at hE'
  clear hE0 haE haR
  go_wp2_with fail
  refine haf.mono ?_
  rintro e6 w6 ⟨A6,c6,rfl,hO6,hE6⟩
  clear hO6 haf
  have HX6:Hid (Ext w w6):=HX5.out.trans' hE6
  clear hE6
  go_wp2_with fail
  go_ret
  exact ⟨rfl,HX6.out.alloc _⟩
 obtain ⟨_,hit,hR⟩:=afterE_ok hE0
 rw [hE0,hR] at haf
 have HIT:=Hd hit
 obtain ⟨aR,haR⟩:∃ x,qal s tr=x:=⟨_,rfl⟩
 rw [haR] at haf
 have HAR:=Hd haR
 clear hE0 hit hR haR
 go_wp2_with fail
 refine haf.mono ?_
 rintro e6 w6 ⟨A6,c6,rfl,hO6,hE6⟩
 clear haf
 have hR6:=qhk hO6
 obtain ⟨W6,hW6⟩:∃ W,w6.alloc (.cells #[.slice A6 aR.length c6] 53)=W:=⟨_,rfl⟩
 have hF6:Ext w6 W6:=by rw [<- hW6];exact (Ext.refl w6).alloc _
 have hB7:qae W6 w6.heap.size 53 [.slice A6 aR.length c6]:=by rw [<- hW6];exact qae.new w6 53 _
 clear d0 d1 d2 z1
 obtain ⟨_,d0,d1,d2,z1⟩:=qd6 HB5.out hE6
 have HW6:=Hd hW6
 have HX6:Hid (Ext w W6):=HX5.out.trans' (hE6.trans' hF6)
 have HR6:=Hd ((RSl.good qac.good).bel hR6 hF6)
 have HB6:=Hd (qd6 HB5.out (hE6.trans' hF6)).1
 have HB7:=Hd hB7
 have haf:=qkr (fun _=>True) s _ [] _ W6 (RSy.good.bel HX.out HX6.out) (lbs_nil _ _)
 rw [(qkj HOK.out (show qbq []=true by rfl)).1,(qkj HOK.out (show qbq []=true by rfl)).2] at haf
 obtain ⟨n0,hn0⟩:∃ x,qal s []=x:=⟨_,rfl⟩
 rw [hn0] at haf
 have h00:(0:Int)∈n0:=by rw [<- hn0];exact qun s
 have HN0:=Hd hn0
 have hn0l:n0.length<=100000:=by
  rw [<- hn0]
  have:=qlg s []
  omega
 clear hO6 hR6 hW6 hF6 hB7 hn0 hE6 HX5 HB5
 go_wp2_with fail
 rw [HW6.out]
 obtain ⟨B7,hB7⟩:∃ p,w6.heap.size=p:=⟨_,rfl⟩
 rw [hB7] at HB7
 rw [hB7]
 have hB7z:=HB7.out.lt
 have hwz:=HB6.out.lt
 clear hB7 HW6 d0 d1 d2 z1
 refine haf.mono ?_
 rintro e8 w8 ⟨A8,c8,rfl,hO8,hE8⟩
 have HX8:Hid (Ext w w8):=HX6.out.trans' hE8
 have HB8:=Hd (qd6 HB6.out hE8).1
 have HB78:=Hd (HB7.out.ext hE8)
 have HR8:=Hd ((RSl.good qac.good).bel ((RSl.good qac.good).mono HR6.out (S':=fun q=>q<W6.heap.size) fun b hb _=>hb) hE8)
 have hw6:w.heap.size<=W6.heap.size:=HX6.out.size
 have hcn:=qg7 (fun _=>True) n0 0 _ w8 (qhk hO8)
 rw [decide_eq_true h00] at hcn
 have HO8:=Hd hO8
 have HZ8:Hid (W6.heap.size<=w8.heap.size):=hE8.size
 clear haf hO8 hE8 h00 HX6 HB6 HB7 HR6
 go_wp2_with fail
 refine hcn.mono ?_
 rintro e9 w9 ⟨rfl,rfl⟩
 clear hcn
 rename World=>w9
 have hs120:s.es.length<=120:=he120
 go_wp2_with fail
 go_loopw [9,63] (fun v9 v63 wr=>∃ (k:Nat) (now:List Int) (An:Option Addr) (cn:Nat),k<=tr.length∧v9 = .slice An now.length cn∧v63 = .int .i64 k∧Ext w9 wr∧now.length<=100000∧Hid (∀ y,y∈now↔y∈qal s (tr.take k))∧Hid (qab qac 1 3 W6.heap.size (fun _=>False) wr now (.slice An now.length cn))) (fun _ v _=>tr.length-(intOf v).toNat)
 case atStart=>exact ⟨0,n0,A8,c8,Nat.zero_le _,rfl,rfl,Ext.refl _,hn0l,fun y=>by rw [<- HN0.out];exact Iff.rfl,HO8.out⟩
 case round =>
  obtain ⟨k,now,An,cn,hk,rfl,rfl,hE,hnl,hNow,hOn⟩:=hrel
  have HE:=Hd hE
  obtain ⟨hBr,d0,d1,d2,z1⟩:=qd6 HB8.out hE
  have HBr:=Hd hBr
  by_cases hlt:k<tr.length
  ·obtain ⟨bl,ol,cl,rfl,hbl,_,_,hrl,hcl⟩:=(qaa.good.bel HTR.out (HX8.out.trans' hE)).get k hlt
   have hvis:qa0 tr[k].g=true:=by
    have:=HIT.out
    simp [qbq] at this
    have:=this.2 _ (List.getElem_mem hlt)
    simp [okV] at this
    exact this.2
   obtain ⟨jx,vx,rfl,hvx⟩:=id hrl
   obtain ⟨Ax,cx,rfl,_,_⟩:=hvx.val
   have e0:=hcl.get 0 _
   have e1:=hcl.get 1 _
   simp only [Nat.add_zero] at e0
   have HTK:=Hd (qij s tr k hlt)
   obtain ⟨x,hx⟩:∃ x,tr[k]=x:=⟨_,rfl⟩
   rw [hx] at e0 e1 hrl hvis HTK
   obtain ⟨sts,hsts⟩:∃ sts,qal s (tr.take k)=sts:=⟨_,rfl⟩
   rw [hsts] at hNow HTK
   obtain ⟨Wl,hWl⟩:∃ W,wr.alloc (.cells #[.int .i64 x.g,.slice Ax x.v.length cx] 61)=W:=⟨_,rfl⟩
   have hXl:Ext wr Wl:=by rw [<- hWl];exact (Ext.refl wr).alloc _
   have HBl:Hid (qae Wl wr.heap.size 61 [.int .i64 x.g,.slice Ax x.v.length cx]):=by
    show qae _ _ _ _
    rw [<- hWl]
    exact qae.new wr 61 _
   have HRX:=Hd (RLb.good.bel (RLb.good.mono hrl (S':=fun _=>True) fun _ _ _=>trivial) hXl)
   have HBL:=Hd (qd6 HBr.out hXl).1
   have HON:=Hd (hOn.out.ext qac.good hXl)
   have HXL:=Hd hXl
   have HWL:=Hd hWl
   have HVIS:=Hd hvis
   clear hcl hrl hvx jx hx hsts hXl hWl hE hBr hvis hOn
   go_wp2_with fail
   rw [HWL.out]
   obtain ⟨Bl,hBl⟩:∃ p,wr.heap.size=p:=⟨_,rfl⟩
   rw [hBl] at HBl
   rw [hBl]
   clear HWL e0 e1 d0 d1 d2 z1
   go_loopw [12,70] (fun v12 v70 wq=>∃ (j:Nat) (A2:Option Addr) (c2:Nat),v12 = .slice A2 (nxP s now x j).length c2∧v70 = .int .i64 j∧j<=s.es.length∧Ext Wl wq∧Hid (qab qac 1 3 Wl.heap.size (fun _=>False) wq (nxP s now x j) (.slice A2 (nxP s now x j).length c2))) (fun _ v _=>s.es.length-(intOf v).toNat)
   case atStart=>exact ⟨0,none,0,rfl,rfl,Nat.zero_le _,Ext.refl _,qab.nil ..⟩
   case round =>
    rename World=>wq
    obtain ⟨j,A2,c2,rfl,rfl,hj,hEq,hOq⟩:=hrel
    by_cases hjl:j<s.es.length
    ·have HEQ:=Hd hEq
     have hXq:=HX8.out.trans' (HE.out.trans' (HXL.out.trans' hEq))
     have hed:=qj0 HOK.out j hjl
     obtain ⟨be,oe,cse,rfl,hbe,_,_,hre,hce⟩:=(qbz.good.bel HES.out hXq).get j hjl
     obtain ⟨jf,jl,jt,rfl⟩:=id hre
     have k0:=hce.get 0 _
     have k1:=hce.get 1 _
     have k2:=hce.get 2 _
     simp only [Nat.add_zero] at k0
     have hme:=qew hjl
     obtain ⟨⟨f,l,t⟩,hxe⟩:∃ x,s.es[j]=x:=⟨_,rfl⟩
     rw [hxe] at k0 k1 k2 hme jf jl jt
     have hsu:=nxP_succ s now x j
     rw [hme] at hed hsu
     simp only at k0 k1 k2 hed jf jl jt
     obtain ⟨li,rfl⟩:∃ li:Nat,l=(li:Int):=⟨l.toNat,by omega⟩
     have hli:li<s.ls.length:=by omega
     have hnx:nxC s now x ⟨f,(li:Int),t⟩=(decide (f∈now) && qa5 s.ls[li] x):=by rw [nxC,qed s.ls li hli]
     rw [hnx] at hsu
     obtain ⟨b3,o3,cs3,rfl,hb3,_,_,hr3,hc3'⟩:=(qaa.good.bel HLS.out hXq).get li hli
     obtain ⟨j3,v3,rfl,hv3⟩:=id hr3
     obtain ⟨A9,c9,rfl,_,_⟩:=hv3.val
     obtain ⟨y,hy⟩:∃ y,s.ls[li]=y:=⟨_,rfl⟩
     have m0:=hc3'.get 0 _
     have m1:=hc3'.get 1 _
     simp only [Nat.add_zero] at m0
     rw [hy] at m0 m1 hr3 hsu
     obtain ⟨We,hWe⟩:∃ W,wq.alloc (.cells #[.int .i64 f,.int .i64 (li:Int),.int .i64 t] 88)=W:=⟨_,rfl⟩
     have hXe:Ext wq We:=by rw [<- hWe];exact (Ext.refl wq).alloc _
     have hbx:qae We wq.heap.size 88 [.int .i64 f,.int .i64 (li:Int),.int .i64 t]:=by rw [<- hWe];exact qae.new wq 88 _
     obtain ⟨_,d0,d1,d2,z1⟩:=qd6 HBL.out hEq
     have m0':=Ext.keep hXe m0
     have m1':=Ext.keep hXe m1
     have hin:=fun X=>qg7 (fun _=>True) now f _ (qak We X) ((RSl.good qac.good).bel (qhk HON.out) (hEq.trans' (hXe.trans' (qa3 We X))))
     have hsl:=fun X=>qnc (fun _=>True) y x _ _ (qak We X) (RLb.good.bel hr3 (hXe.trans' (qa3 We X))) (RLb.good.bel HRX.out (hEq.trans' (hXe.trans' (qa3 We X))))
     have HWE:=Hd hWe
     have HXE:=Hd hXe
     have HSU:=Hd hsu
     have HJ:Hid (I64 f∧I64 t):=⟨jf,jt⟩
     obtain ⟨ys,hys⟩:∃ ys,nxP s now x j=ys:=⟨_,rfl⟩
     have hyl:ys.length<=1000:=by rw [<- hys];have:=nxP_len s now x j;omega
     rw [hys] at hOq HSU ⊢
     clear hce hre hc3' hr3 hv3 hxe hme hsu hnx hWe jf jl jt j3 hy hys hEq m0 m1
     go_wp2_with fail
     rw [HWE.out]
     obtain ⟨Be,hBe⟩:∃ p,wq.heap.size=p:=⟨_,rfl⟩
     rw [hBe] at hbx
     rw [hBe]
     have q0:=hbx.cell 0 _
     have q1:=hbx.cell 1 _
     have q2:=hbx.cell 2 _
     have qz:=hbx.lt
     have hblx:=HBl.out.ext (HEQ.out.trans' HXE.out)
     have x0:=hblx.cell 0 _
     have x1:=hblx.cell 1 _
     have xz:=hblx.lt
     obtain ⟨_,d0',d1',d2',z1'⟩:=qd6 HBL.out (HEQ.out.trans' HXE.out)
     have HBX:=Hd hbx
     clear HWE d0 d1 d2 z1 hBe hbx hblx k0 k1 k2
     by_cases hfn:f∈now
     ·rw [decide_eq_true hfn] at hin
      rw [decide_eq_true hfn,Bool.true_and] at HSU
      clear hfn
      cases hsb:qa5 y x
      ·rw [hsb] at hsl HSU
       clear hsb
       (refine qay ?_;(repeat (first | go_big_quiet_step ((first | (go_at_call 32;exact qbi (hin _)) | (go_at_call 37;exact qap (hsl _)))) | quiet_step ((first | (go_at_call 32;exact qbi (hin _)) | (go_at_call 37;exact qap (hsl _))))));refine wpQuiet_nil ?_)
       intro w2 hx2
       go_wp2_with fail
       refine ⟨⟨j+1,A2,c2,by rw [HSU.out,if_neg (by decide)],by go_num,by omega,HEQ.out.trans' (HXE.out.trans' hx2),?_⟩,by simp [intOf];omega⟩
       show qab _ _ _ _ _ _ _ _
       rw [HSU.out,if_neg (by decide)]
       exact hOq.out.ext qac.good (HXE.out.trans' hx2)
      ·rw [hsb] at hsl HSU
       clear hsb
       (refine qay ?_;(repeat (first | go_big_quiet_step ((first | (go_at_call 32;exact qbi (hin _)) | (go_at_call 37;exact qap (hsl _)))) | quiet_step ((first | (go_at_call 32;exact qbi (hin _)) | (go_at_call 37;exact qap (hsl _))))));refine wpQuiet_nil ?_)
       intro w2 hx2
       have hqb:=HBX.out.ext hx2
       have t2:=hqb.cell 2 _
       have tz:=hqb.lt
       have hob:=fun q hq=>hOq.out.own_lt (b:=q) hq
       have hz2:=(HEQ.out.trans' (HXE.out.trans' hx2)).size
       obtain ⟨g3,c3',w3',hr3',ho3,hb3',_,_⟩:=qex qac.good (by decide) Wl.heap.size 3 53 (.int .i64 0) 8 Tryz.underlying53 info3z rfl (by decide) (fun _=>False) w2 ys (.slice A2 ys.length c2) t [.int .i64 t] (hOq.out.ext qac.good (HXE.out.trans' hx2)) ⟨rfl,HJ.out.2⟩ hz2 (by omega)
       have HO3:=Hd ho3
       have HX3:Hid (Ext Wl w3'):=Bt.new (HEQ.out.trans' (HXE.out.trans' hx2)) hb3' fun q _ h=>(hob q h).1
       clear hqb ho3 hb3' hob hOq q0 q1 q2 qz x0 x1 xz d0' d1' d2' z1' m0' m1'
       go_wp2_with (at_builtin;refine wpList_append_run rfl _ _ _ rfl _ _ _ rfl rfl hr3' ?_;clear hr3')
       refine ⟨⟨j+1,some ⟨g3,0,none⟩,c3',by rw [HSU.out,if_pos rfl];simp,by go_num,by omega,HX3.out,?_⟩,by simp [intOf];omega⟩
       show qab _ _ _ _ _ _ _ _
       rw [HSU.out,if_pos rfl]
       have h:=HO3.out
       simpa using h
     ·rw [decide_eq_false hfn] at hin
      rw [decide_eq_false hfn,Bool.false_and] at HSU
      clear hfn hsl
      (refine qay ?_;(repeat (first | go_big_quiet_step ((first | (go_at_call 32;exact qbi (hin _)))) | quiet_step ((first | (go_at_call 32;exact qbi (hin _))))));refine wpQuiet_nil ?_)
      intro w2 hx2
      go_wp2_with fail
      refine ⟨⟨j+1,A2,c2,by rw [HSU.out,if_neg (by decide)],by go_num,by omega,HEQ.out.trans' (HXE.out.trans' hx2),?_⟩,by simp [intOf];omega⟩
      show qab _ _ _ _ _ _ _ _
      rw [HSU.out,if_neg (by decide)]
      exact hOq.out.ext qac.good (HXE.out.trans' hx2)
    ·obtain rfl:j=s.es.length:=by omega
     have hbase:=Pw.start HOK.out hNow.out HVIS.out
     obtain ⟨ys,hys⟩:∃ ys,nxP s now x s.es.length=ys:=⟨_,rfl⟩
     have hyl:ys.length<=120:=by rw [<- hys];have:=nxP_len s now x s.es.length;omega
     have hpt:=qfe s ys
     obtain ⟨C,hC⟩:∃ C,qc3 s x sts=C:=⟨_,rfl⟩
     have hCC:qgs s C:=by rw [<- hC];exact qi6 s _
     rw [hys] at hOq
     rw [hC,hys] at hbase
     have HC:=Hd hC
     have HYS:=Hd hys
     have HBASE:=Hd hbase
     have HCC:=Hd hCC
     have HEQ:=Hd hEq
     rw [hys]
     clear hbase hCC hC hys hEq hj hjl
     go_wp2_with fail
     go_loopg [12,15] (qbh s ys+1) (fun gk v12 v15 wq2=>∃ (nx:List Int) (more:Bool) (A4:Option Addr) (c4:Nat),v12 = .slice A4 nx.length c4∧v15 = .bool more∧Ext Wl wq2∧Hid (Pw s ys C nx)∧Hid (more=false->qgs s nx)∧Hid (qab qac 1 3 Wl.heap.size (fun _=>False) wq2 nx (.slice A4 nx.length c4))∧Hid (more=true->qbh s nx<gk))
     case atStart=>exact ⟨ys,true,A2,c2,rfl,rfl,HEQ.out,HBASE.out,fun h=>(by cases h),hOq.out,fun _=>by omega⟩
     case round =>
      rename World=>wz
      obtain ⟨nx,more,A4,c4,rfl,rfl,hEz,hPw,hCl,hOz,hGk⟩:=hrel
      cases more
      ·go_wp2_with fail
       have hnx:=Pw.done HOK.out hNow.out HVIS.out (nx:=nx) (by rw [HYS.out,HC.out];exact hPw.out) (hCl.out rfl)
       rw [<- HTK.out] at hnx
       have hb6:W6.heap.size<=Wl.heap.size:=Nat.le_trans HZ8.out (Nat.le_trans HE.out.size HXL.out.size)
       exact ⟨⟨k+1,nx,A4,c4,by omega,rfl,by go_num,HE.out.trans' (HXL.out.trans' hEz),by have:=hPw.out.len;omega,hnx,hOz.out.base hb6⟩,by simp [intOf];omega⟩
      ·have HEZ:=Hd hEz
       obtain ⟨_,d0,d1,d2,z1⟩:=qd6 HBL.out hEz
       have hgk:=hGk.out rfl
       have HPS:=Hd (Ps.start hPw.out)
       clear hEz hPw hCl hGk
       go_wp2_with fail
       go_loopw [12,15,98] (fun v12 v15 v98 wy=>∃ (j:Nat) (n2:List Int) (more:Bool) (A5:Option Addr) (c5:Nat),v12 = .slice A5 n2.length c5∧v15 = .bool more∧v98 = .int .i64 j∧j<=s.es.length∧Ext Wl wy∧Hid (Ps s ys C nx n2 j more)∧Hid (qab qac 1 3 Wl.heap.size (fun _=>False) wy n2 (.slice A5 n2.length c5))) (fun _ _ v _=>s.es.length-(intOf v).toNat)
       case atStart=>exact ⟨0,nx,false,A4,c4,rfl,rfl,rfl,Nat.zero_le _,HEZ.out,HPS.out,hOz.out⟩
       case round =>
        rename World=>wy
        obtain ⟨j,n2,more,A5,c5,rfl,rfl,rfl,hj,hEy,hPs,hOy⟩:=hrel
        by_cases hjl:j<s.es.length
        ·have hEw:=hEy
         have HEW:=Hd hEw
         have hXq:=HX8.out.trans' (HE.out.trans' (HXL.out.trans' hEw))
         have hed:=qj0 HOK.out j hjl
         obtain ⟨be,oe,cse,rfl,hbe,_,_,hre,hce⟩:=(qbz.good.bel HES.out hXq).get j hjl
         obtain ⟨jf,jl,jt,rfl⟩:=id hre
         have k0:=hce.get 0 _
         have k1:=hce.get 1 _
         have k2:=hce.get 2 _
         simp only [Nat.add_zero] at k0
         have hme:=qew hjl
         obtain ⟨⟨f,l,t⟩,hxe⟩:∃ x,s.es[j]=x:=⟨_,rfl⟩
         rw [hxe] at k0 k1 k2 hme jf jl jt
         rw [hme] at hed
         simp only at k0 k1 k2 hed jf jl jt
         obtain ⟨li,rfl⟩:∃ li:Nat,l=(li:Int):=⟨l.toNat,by omega⟩
         have hli:li<s.ls.length:=by omega
         obtain ⟨b3,o3,cs3,rfl,hb3,_,_,hr3,hc3'⟩:=(qaa.good.bel HLS.out hXq).get li hli
         obtain ⟨j3,v3,rfl,hv3⟩:=id hr3
         have hgt:=qjt s (l:=(li:Int)) rfl hli
         obtain ⟨y,hy⟩:∃ y,s.ls[li]=y:=⟨_,rfl⟩
         have m0:=hc3'.get 0 _
         simp only [Nat.add_zero] at m0
         rw [hy] at m0 hgt
         have hskip:=fun h=>Ps.skip hPs.out (k:=j) h
         have hadd:=fun h=>Ps.add HCC.out hPs.out hjl h
         rw [hme] at hskip hadd
         have hpas:pasB s n2 ⟨f,(li:Int),t⟩↔y.g = -1∧f∈n2∧t∉n2:=by unfold pasB;rw [hgt]
         rw [hpas] at hskip hadd
         have HSK:=Hd hskip
         have HAD:=Hd hadd
         obtain ⟨We,hWe⟩:∃ W,wy.alloc (.cells #[.int .i64 f,.int .i64 (li:Int),.int .i64 t] 88)=W:=⟨_,rfl⟩
         have hXe:Ext wy We:=by rw [<- hWe];exact (Ext.refl wy).alloc _
         have hbx:qae We wy.heap.size 88 [.int .i64 f,.int .i64 (li:Int),.int .i64 t]:=by rw [<- hWe];exact qae.new wy 88 _
         obtain ⟨_,d0',d1',d2',z1'⟩:=qd6 HBL.out hEw
         have m0':=Ext.keep hXe m0
         have hin1:=qg7 (fun _=>True) n2 f _ We ((RSl.good qac.good).bel (qhk hOy.out) hXe)
         have hin2:=qg7 (fun _=>True) n2 t _ We ((RSl.good qac.good).bel (qhk hOy.out) hXe)
         have HWE:=Hd hWe
         have HXE:=Hd hXe
         have HEY:=Hd hEy
         have HJ:Hid (I64 f∧I64 t):=⟨jf,jt⟩
         have hn2l:n2.length<=1000:=by have:=hPs.out.pw.len;omega
         clear hce hre hc3' hr3 hv3 hxe hme hWe jf jl jt j3 hy m0 hEw hskip hadd hpas hgt hEy d0 d1 d2 z1
         go_upto_region 27 with (fail)
         rw [HWE.out]
         obtain ⟨Be,hBe⟩:∃ p,wy.heap.size=p:=⟨_,rfl⟩
         rw [hBe] at hbx
         rw [hBe]
         have q0:=hbx.cell 0 _
         have q1:=hbx.cell 1 _
         have q2:=hbx.cell 2 _
         have qz:=hbx.lt
         clear d0' d1' d2' z1'
         obtain ⟨_,d0,d1,d2,z1⟩:=qd6 HBL.out (HEW.out.trans' HXE.out)
         clear HWE hBe hbx k0 k1 k2
         have fin:∀ W,Ext We W->Ps s ys C nx n2 (j+1) more->((∃ (j':Nat) (n3:List Int) (more':Bool) (A5':Option Addr) (c5':Nat),Value.slice A5 n2.length c5 = .slice A5' n3.length c5'∧Value.bool more = .bool more'∧Value.int .i64 ((j:Int)+1) = .int .i64 j'∧j'<=s.es.length∧Ext Wl W∧Hid (Ps s ys C nx n3 j' more')∧Hid (qab qac 1 3 Wl.heap.size (fun _=>False) W n3 (.slice A5' n3.length c5')))∧s.es.length-(intOf (Value.int .i64 ((j:Int)+1))).toNat<s.es.length-(intOf (Value.int .i64 (j:Int))).toNat):=fun W hW hP =>
          ⟨⟨j+1,n2,more,A5,c5,rfl,rfl,by go_num,by omega,HEY.out.trans' (HXE.out.trans' hW),hP,hOy.out.ext qac.good (HXE.out.trans' hW)⟩,by simp [intOf];omega⟩
         have FIN:=Hd fin
         clear fin
         by_cases hg:y.g = -1
         ·have r0:(y.g == -1)=true:=beq_iff_eq.2 hg
          by_cases hf:f∈n2
          ·rw [decide_eq_true hf] at hin1
           by_cases ht:t∈n2
           ·rw [decide_eq_true ht] at hin2
            have HN:=Hd (HSK.out fun h=>h.2.2 ht)
            clear hg hf ht
            go_wp2_with (first | (go_at_call 32;refine hin1.mono ?_;rintro e w' ⟨rfl,rfl⟩) | (go_at_call 32;refine hin2.mono ?_;rintro e w' ⟨rfl,rfl⟩))
            exact FIN.out _ (Ext.refl _) HN.out
           ·rw [decide_eq_false ht] at hin2
            have HN:=Hd (HAD.out ⟨hg,hf,ht⟩)
            clear hg hf ht
            have hob:=fun q hq=>hOy.out.own_lt (b:=q) hq
            have hz2:=(HEW.out.trans' HXE.out).size
            obtain ⟨g3,c3',w3',hr3',ho3,hb3',_,_⟩:=qex qac.good (by decide) Wl.heap.size 3 53 (.int .i64 0) 8 Tryz.underlying53 info3z rfl (by decide) (fun _=>False) We n2 (.slice A5 n2.length c5) t [.int .i64 t] (hOy.out.ext qac.good HXE.out) ⟨rfl,HJ.out.2⟩ hz2 (by omega)
            have HO3:=Hd ho3
            have HX3:Hid (Ext Wl w3'):=Bt.new (HEY.out.trans' HXE.out) hb3' fun q _ h=>(hob q h).1
            clear ho3 hb3' hob
            go_wp2_with (first | (go_at_call 32;refine hin1.mono ?_;rintro e w' ⟨rfl,rfl⟩) | (go_at_call 32;refine hin2.mono ?_;rintro e w' ⟨rfl,rfl⟩) | (at_builtin;refine wpList_append_run rfl _ _ _ rfl _ _ _ rfl rfl hr3' ?_;clear hr3'))
            exact ⟨⟨j+1,n2++[t],true,some ⟨g3,0,none⟩,c3',by simp,rfl,by go_num,by omega,HX3.out,HN.out,(by have h:=HO3.out;show qab _ _ _ _ _ _ _ _;simpa using h)⟩,by simp [intOf];omega⟩
          ·rw [decide_eq_false hf] at hin1
           have HN:=Hd (HSK.out fun h=>hf h.2.1)
           clear hg hf
           go_wp2_with (first | (go_at_call 32;refine hin1.mono ?_;rintro e w' ⟨rfl,rfl⟩))
           exact FIN.out _ (Ext.refl _) HN.out
         ·have r0:(y.g == -1)=false:=beq_eq_false_iff_ne.2 hg
          have HN:=Hd (HSK.out fun h=>hg h.1)
          clear hg
          go_wp2_with fail
          exact FIN.out _ (Ext.refl _) HN.out
        ·obtain rfl:j=s.es.length:=by omega
         go_wp2_with fail
         go_roundg (qbh s nx)
         case measure=>exact hgk
         case rel=>exact ⟨n2,more,A5,c5,rfl,rfl,hEy,hPs.out.pw,fun e=>(by subst e;exact hPs.out.closed),hOy.out,fun e=>hPs.out.yes e⟩
  ·obtain rfl:k=tr.length:=by omega
   rw [List.take_length] at hNow
   have hso:=qju W6.heap.size (fun _=>False) now _ wr hOn.out (by omega)
   have hob:=fun q hq=>hOn.out.own_lt (b:=q) hq
   have hB7:=HB78.out.ext hE
   have HNOW:=Hd (law_end hNow.out)
   have hsl:(qct now).length=now.length:=qi4 now
   obtain ⟨ns,hns⟩:∃ ns,qct now=ns:=⟨_,rfl⟩
   rw [hns] at hso HNOW hsl
   have HB7:=Hd hB7
   have HHN:=Hd HAR.out
   clear hNow hB7 hns hk hlt
   go_wp2_with fail
   refine hso.mono ?_
   rintro e wa ⟨rfl,hOa,hba⟩
   have hl9:ns.length<=100000:=by omega
   have hOa':qab qac 1 3 W6.heap.size (fun _=>False) wa ns (.slice An now.length cn):=hOa
   have hBa:=HB7.out.bt hba (fun e=>by have:=(hob _ e).1;omega)
   have hBx:=HBr.out.bt hba (fun e=>by have:=(hob _ e).1;omega)
   have t0:=hBa.cell 0 _
   have tz:=hBa.lt
   have hRa:RSl qac 1 (fun q=>q<W6.heap.size) wa aR [.slice A6 aR.length c6]:=(RSl.good qac.good).move ((RSl.good qac.good).bel HR8.out hE) (hba.kp fun q _ h e=>by have:=(hob _ e).1;omega)
   have hXa:Ext w wa:=Bt.new (HX8.out.trans' hE) hba fun q _ e=>by have:=(hob _ e).1;omega
   have hza:W6.heap.size<=wa.heap.size:=Nat.le_trans HZ8.out (Nat.le_trans hE.size hba.size)
   have HXA:=Hd hXa
   have HRA:=Hd hRa
   have HBA:=Hd hBa
   have HBX:=Hd hBx
   clear hba hOa hob hBa hBx hRa hXa hE hBr hso hOn d0 d1 d2 z1
   go_wp2_with fail
   refine wp_region_held (S:=fun W=>W.cell? ⟨B7,0,none⟩=some (.slice A6 aR.length c6)) (by kernel_rfl) ?_
   show wpAnyH _ _ _ _ _ _ _ _ wa.drew
   obtain ⟨Wd,hWd⟩:∃ Wd,wa.drew=Wd:=⟨_,rfl⟩
   have hXd:Ext wa Wd:=hWd ▸ Below.drew (Ext.refl _)
   have hHeld:Wd.cell? ⟨B7,0,none⟩=some (.slice A6 aR.length c6):=Ext.keep hXd t0
   rw [hWd]
   clear hWd t0
   have hOd:=hOa'.ext qac.good hXd
   rw [<- hsl] at hOd
   have hob:=fun q hq=>hOd.own_lt (b:=q) hq
   have hcm:=qul W6.heap.size (fun _=>False) ns _ Wd hOd (by omega)
   rw [HNOW.out,HAR.out] at hcm
   rw [hsl] at hcm hob
   (refine tk 0 ?_;try simp only [qag])
   (refine tk 2 ?_;try simp only [qag])
   refine wpAnyH_ready (rs:=[1]) (by kernel_rfl) (by simp) ?_
   refine AllReadyH.cons rfl (fun K hK=>?_) AllReadyH.nil
   go_simp
   refine hcm.mono ?_
   rintro e wb ⟨A10,c10,rfl,hOb,hbb⟩
   refine hK.out _ _ (hbb.cell hHeld (fun e=>by have h9:W6.heap.size<=B7:=(hob _ e).1;omega)) (fun hHeld2=>?_)
   clear hK K
   try simp only [qag]
   have hRb:RSl qac 1 (fun q=>q<W6.heap.size) wb aR [.slice A6 aR.length c6]:=(RSl.good qac.good).move ((RSl.good qac.good).bel HRA.out hXd) (hbb.kp fun q _ h e=>by have:=(hob _ e).1;omega)
   have heq:=qhu (fun _=>True) aR aR _ _ wb (qhk hOb) ((RSl.good qac.good).mono hRb fun _ _ _=>trivial)
   rw [decide_eq_true rfl] at heq
   refine wpAnyH_ready (rs:=[3]) (by kernel_rfl) (by simp) ?_
   refine AllReadyH.cons rfl (fun K hK=>?_) AllReadyH.nil
   go_simp
   refine heq.mono ?_
   rintro e wc ⟨rfl,hEc⟩
   refine hK.out _ _ (Ext.keep hEc hHeld2) (fun hHeld3=>?_)
   clear hK K
   try simp only [qag]
   (refine tk 4 ?_;try simp only [qag])
   refine wpAnyH_done (by kernel_rfl) ?_ _
   have hBc:=(((HBA.out.ext hXd).bt hbb (fun e=>by have:=(hob _ e).1;omega))).ext hEc
   have hBxc:=(((HBX.out.ext hXd).bt hbb (fun e=>by have:=(hob _ e).1;omega))).ext hEc
   have HXC:Hid (Ext w wc):=(Bt.new (HXA.out.trans' hXd) hbb fun q _ e=>by have:=(hob _ e).1;omega).trans' hEc
   have HRC:=Hd ((RSl.good qac.good).bel hRb hEc)
   have HBC:=Hd hBc
   have HBXC:=Hd hBxc
   obtain ⟨_,d0,d1,d2,z1⟩:=qd6 hBxc (Ext.refl wc)
   clear hHeld hHeld2 hHeld3 hcm hOb hbb hRb heq hEc hBc hBxc hob hOd hOa' hXd HXA HRA HBA HBX HB7
   by_cases hd0:d<0
   ·go_wp2_with fail
    go_ret
    exact ⟨rfl,HXC.out⟩
   by_cases hd1:(s.es.length:Int)<=d
   ·go_wp2_with fail
    go_ret
    exact ⟨rfl,HXC.out⟩
   have hmo:muOK s ⟨1,d,0,0⟩:=⟨⟨by show 0<=d;omega,by show d<_;omega⟩,.inl ⟨rfl,rfl,rfl⟩⟩
   have hmu:=Mutate_c (fun _=>True) s HOK.out hsm hl16 ⟨1,d,0,0⟩ hmo _ [.int .i64 1,.int .i64 d,.int .i64 0,.int .i64 0] wc (RSy.good.bel HX.out HXC.out) ⟨i64_01.1,(by show I64 d;unfold I64;omega),i64_01.2,i64_01.2,rfl⟩
   have hzok:=mut_ok HOK.out hmo
   have hza2:=qsq HOK.out hmo rfl tr
   obtain ⟨z,hz⟩:∃ z,qdw s ⟨1,d,0,0⟩=z:=⟨_,rfl⟩
   unfold qpg at hmu
   rw [hz] at hmu hzok hza2
   rw [HAR.out] at hza2
   have HZOK:=Hd hzok
   have HZA:=Hd hza2
   clear hz hzok hza2 hmo
   go_wp2_with fail
   refine hmu.mono ?_
   rintro e wm ⟨cs5,rfl,hsy,hEm⟩
   obtain ⟨j5,v1,v2,rfl,hv1,hv2⟩:=id hsy
   obtain ⟨Az,cz,rfl,_,_⟩:=hv1.val
   obtain ⟨Ay,cy,rfl,_,_⟩:=hv2.val
   obtain ⟨Wm,hWm⟩:∃ W,wm.alloc (.cells #[.int .i64 z.n,.slice Az z.ls.length cz,.slice Ay z.es.length cy] 25)=W:=⟨_,rfl⟩
   have hFm:Ext wm Wm:=by rw [<- hWm];exact (Ext.refl wm).alloc _
   have HXM:Hid (Ext w Wm):=HXC.out.trans' (hEm.trans' hFm)
   have HEM:Hid (Ext wc Wm):=hEm.trans' hFm
   have HWM:=Hd hWm
   have haf:=qkr (fun _=>True) z _ tr _ Wm (RSy.good.bel (RSy.good.mono hsy fun _ _ _=>trivial) hFm) (qaa.good.bel HTR.out HXM.out)
   rw [(qkj HZOK.out HIT.out).1,(qkj HZOK.out HIT.out).2] at haf
   obtain ⟨zR,hzR⟩:∃ x,qal z tr=x:=⟨_,rfl⟩
   rw [hzR] at haf HZA
   clear hmu hEm hsy hv1 hv2 hWm hFm hzR d0 d1 d2 z1
   go_wp2_with fail
   rw [HWM.out]
   clear HWM
   refine haf.mono ?_
   rintro e wn ⟨An',cn',rfl,hOn',hEn⟩
   have hEN:=HEM.out.trans' hEn
   have hbc:=HBC.out.ext hEN
   have hRn:=(RSl.good qac.good).mono ((RSl.good qac.good).bel HRC.out hEN) (S':=fun _=>True) fun _ _ _=>trivial
   have hcn:=qls (fun y=>!(decide (y∈aR))) (fun _=>True) wn zR _ (qhk hOn') 62 #[.pointer (some ⟨B7,0,none⟩)] eg62 (fun y hy cs W hW hr=>in1_c aR _ B7 y cs W hr ((RSl.good qac.good).bel hRn hW) (Ext.keep hW (hbc.cell 0 _)))
   have hany:(zR.any fun y=>!(decide (y∈aR)))=false:=by
    rw [List.any_eq_false]
    intro y hy
    rw [decide_eq_true (HZA.out y hy)]
    decide
   rw [hany] at hcn
   have HXN:Hid (Ext w wn):=HXM.out.trans' hEn
   clear haf hOn' hEn hEN hbc hRn hany
   go_wp2_with fail
   refine hcn.mono ?_
   rintro e wo ⟨rfl,hEo⟩
   go_wp2_with fail
   go_ret
   exact ⟨rfl,HXN.out.trans' hEo⟩
end
end Go.Proofs.YtegenalcheooeaaGreat
