/- Of the proof of a law of the suites: LawFound. -/
import Derived.Test.YtegenalcheooeaaGreatAF04
import Derived.Test.YtegenalcheooeaaGreatAF06
import Derived.Test.YtegenalcheooeaaGreatAF08
import Derived.Test.YtegenalcheooeaaGreatAF09
import Derived.Test.YtegenalcheooeaaGreatAF10
import Derived.Test.YtegenalcheooeaaGreatB26
import Derived.Deep.CutBlock
set_option linter.unusedSectionVars false
set_option linter.unusedSimpArgs false
set_option linter.unusedVariables false
namespace Go.Proofs.YtegenalcheooeaaGreat
open Go.RowKit
attribute [local go_sem] cell?_exto
section
open Go.Shelf
def TrueP (w:World) (e:Ending) (w':World):Prop:=e = .returned (.bool true)∧Ext w w'
theorem box3 {W W':World} {B:Nat} {t:TypeId} {a b c:Value} (h:qaf W B t [a,b,c]) (he:Ext W W') :
  qaf W' B t [a,b,c]∧W'.cell? ⟨B,0,none⟩=some a∧W'.cell? ⟨B,1,none⟩=some b∧W'.cell? ⟨B,2,none⟩=some c∧B<W'.heap.size :=
 have h0:=h.ext he
 ⟨h0,h0.cell 0 _,h0.cell 1 _,h0.cell 2 _,h0.lt⟩
theorem te_own {W:World} {base:Nat} {T:Nat->Prop} {xs:List Te} {v:Value} (h:qab RTe 2 40 base T W xs v):RSl RTe 2 (fun _=>True) W xs [v]:=(RSl.good RTe.good).mono (h.sl RTe.good (by decide)) fun _ _ _=>trivial
theorem bs_own {W:World} {base:Nat} {T:Nat->Prop} {xs:List Bool} {v:Value} (h:qab qae 1 4 base T W xs v):RSl qae 1 (fun _=>True) W xs [v]:=(RSl.good qae.good).mono (h.sl qae.good (by decide)) fun _ _ _=>trivial
theorem mu_own {W:World} {base:Nat} {T:Nat->Prop} {xs:List Mu} {v:Value} (h:qab RMu 4 94 base T W xs v):RSl RMu 4 (fun _=>True) W xs [v]:=(RSl.good RMu.good).mono (h.sl RMu.good (by decide)) fun _ _ _=>trivial
theorem mus_at {S S':Nat->Prop} {W:World} {xs:List Mu} {b off n c:Nat} (h:RSl RMu 4 S W xs [.slice (some ⟨b,off,none⟩) n c]) (hb:S' b):RSl RMu 4 S' W xs [.slice (some ⟨b,off,none⟩) n c]:=by
 obtain ⟨A,c',e,h1,h0,h2⟩:=h
 refine ⟨A,c',e,h1,h0,?_⟩
 rcases h2 with h2 | ⟨b',off',rfl,hb2,_,hr⟩
 ·exact .inl h2
 ·injection e with e
  injection e with e
  injection e with e
  injection e with e
  subst e
  exact .inr ⟨_,off',rfl,hb2,hb,hr.imp (fun y _ cs hc=>hc) rfl⟩
theorem info94b:(Tryz.prog.info? 94).map (fun i=>(i.zero,i.size,i.bytes))=some (some (.agg #[.int .i64 0,.int .i64 0,.int .i64 0,.int .i64 0]),4,32):=by kernel_rfl
def qh0 (s:Sy) (i:Nat):List Mu:=[⟨2,i,(qbz s i).t,0⟩,⟨3,i,0,(qbz s i).l⟩]
def noP (s:Sy) (k:Nat):List Mu:=(List.range (min k 5)).flatMap (qh0 s)
theorem noP_lt (s:Sy) {k:Nat} (h:k<5):noP s (k+1)=noP s k++qh0 s k:=by
 unfold noP
 rw [show min (k+1) 5=k+1 from by omega,show min k 5=k from by omega,List.range_succ]
 simp
theorem noP_ge (s:Sy) {k:Nat} (h:¬ k<5):noP s (k+1)=noP s k:=by
 unfold noP
 rw [show min (k+1) 5=5 from by omega,show min k 5=5 from by omega]
theorem noP_len (s:Sy) (k:Nat):(noP s k).length<=10:=by
 have h:∀ n,((List.range n).flatMap (qh0 s)).length=2*n:=fun n=>by
  induction n with
  | zero=>rfl
  | succ n ih=>rw [List.range_succ,List.flatMap_append,List.length_append,ih];simp [qh0];omega
 rw [noP,h]
 omega
theorem noP_no {s:Sy} (hok:qag s) {m:Mu} (h:m∈noP s s.es.length):muNo s m:=by
 obtain ⟨i,hi,hm⟩:=List.mem_flatMap.1 h
 have hi:i<s.es.length:=by have:=List.mem_range.1 hi;omega
 have he:=qlp hok i hi
 simp only [qh0,List.mem_cons,List.not_mem_nil,or_false] at hm
 rcases hm with rfl | rfl
 ·exact ⟨⟨⟨by show (0:Int)<=(i:Int);omega,by show (i:Int)<_;omega⟩,.inr (.inl ⟨rfl,⟨he.2.2.1,he.2.2.2.1⟩,rfl⟩)⟩,i,rfl,hi,.inl ⟨rfl,rfl⟩⟩
 ·exact ⟨⟨⟨by show (0:Int)<=(i:Int);omega,by show (i:Int)<_;omega⟩,.inr (.inr ⟨rfl,rfl,he.2.2.2.2⟩)⟩,i,rfl,hi,.inr ⟨rfl,rfl⟩⟩
theorem own_law {s:Sy} {d:Int} (h:qee s d=0):qag s∧qar s (qbi s d)=0∧(∀ m∈noP s s.es.length,qcv s m)∧true∉(noP s s.es.length).map (qe9 s (qbi s d)):=by
 obtain ⟨hok,_,hd,hg⟩:=genE_ok h
 have hl:=ql3 hok (by omega) hg
 refine ⟨hok,qjb hok hl.len hl.test,fun m hm=>(noP_no hok hm).1,fun ht=>?_⟩
 obtain ⟨m,hm,e⟩:=List.mem_map.1 ht
 have:=no_found hok (by omega) hg (noP_no hok hm)
 rw [qe9,decide_eq_true_eq] at e
 omega
theorem fail_law {s:Sy} {ts:List Te} (h:qar s ts=0) {m:Mu} (hm:qcv s m):qag s∧qar (qci s m) ts=0∧qeh (qci s m) ts=qa8 (qbg (qci s m)) ts:=by
 obtain ⟨h1,h2,h3⟩:=qey h
 have e:=qjb (qi7 h1 hm) h2 h3
 exact ⟨h1,e,if_pos e⟩
set_option maxHeartbeats 8000000 in
set_option maxRecDepth 100000 in
theorem found13_c (w:World) (s:Sy) (hsm:qer s) (cs:List Value) (hx:RSy (fun _=>True) w s cs) (ts:List Te) (vt:Value) (ht:RSl RTe 2 (fun _=>True) w ts [vt]) (ms:List Mu) (vm:Value) (hm:RSl RMu 4 (fun _=>True) w ms [vm]) (d:Int) :
  Calls Tryz.prog 13 #[.agg cs.toArray,vt,vm,.int .i64 d] w (TrueP w):=by
 obtain ⟨_,v,u,rfl,hv,hu⟩:=id hx
 obtain ⟨A,c,rfl,_,_⟩:=hv.val
 obtain ⟨B,b,rfl,_,_⟩:=hu.val
 obtain ⟨At,ct,rfl,hct,hct0⟩:=ht.val
 obtain ⟨Am,cm,rfl,hcm,hcm0⟩:=hm.val
 have HX:=Hd hx
 have HT:=Hd ht
 have HM:=Hd hm
 have HES:=Hd hu
 clear hx ht hv hu hm
 go_enter Tryz.func13,Tryz.ntmps13
 go_wp2_with fail
 refine (sane_c _).mono ?_
 rintro e1 w1 ⟨rfl,h1⟩
 have HX1:Hid (Ext w w1):=bel
 obtain ⟨hB,d0,d1,d2,z1⟩:=box3 (B:=w.heap.size) (t:=25) (qaf.new w 25 [.int .i64 s.n,.slice A s.ls.length c,.slice B s.es.length b]) h1
 have HB:=Hd hB
 clear h1 hB
 have hbr:=brief_c ts _ w1 ((RSl.good RTe.good).bel HT.out HX1.out)
 go_wp2_with fail
 refine hbr.mono ?_
 rintro e2 w2 ⟨rfl,h2⟩
 have HX2:Hid (Ext w w2):=HX1.out.trans' h2
 clear d0 d1 d2 z1 hbr
 obtain ⟨hB,d0,d1,d2,z1⟩:=box3 HB.out h2
 have HB2:=Hd hB
 clear h2 hB HX1 HB
 cases hbb:qio ts
 ·clear hbb
  go_wp2_with fail
  go_ret
  exact ⟨rfl,HX2.out⟩
 have HBR:=Hd hbb
 clear hbb
 have hsml:=fun W (hW:Ext w2 W)=>small2_c (fun _=>True) 10 [s] _ _ (qii RSy.good (by decide) (e:=25) (qh3 (RSy.good.bel HX.out (HX2.out.trans' hW)) rfl) (by simp))
 go_wp2_with fail
 refine (hsml _ (Ext.refl _)).mono ?_
 rintro e3 w3 ⟨bb,rfl,h3,hbig⟩
 have HBIG:=Hd hbig
 have hE3:Ext w2 w3:=Ext.trans' ((Ext.refl w2).alloc _) h3
 have HX3:Hid (Ext w w3):=HX2.out.trans' hE3
 clear d0 d1 d2 z1 hbig
 obtain ⟨hB,d0,d1,d2,z1⟩:=box3 HB2.out hE3
 have HB3:=Hd hB
 clear hsml h3 hE3 hB HX2 HB2
 cases bb
 ·go_wp2_with fail
  go_ret
  exact ⟨rfl,HX3.out⟩
 obtain ⟨hl16,he120⟩:=HBIG.out rfl s (by simp)
 clear HBIG
 by_cases h60:(60:Int)<(ms.length:Int)
 ·go_wp2_with fail
  go_ret
  exact ⟨rfl,HX3.out⟩
 have hms:ms.length<=60:=by omega
 go_upto_region 5 with (fail)
 ·go_ret
  exact ⟨rfl,HX3.out⟩
 obtain ⟨bd,hbd⟩:∃ bd,decide (0<=d∧d<=2)=bd:=⟨_,rfl⟩
 have HBD:=Hd hbd
 clear hbd
 go_cut [54] (fun v54 wx=>v54 = .bool bd∧wx=w3)
 case first =>
  by_cases hd0:0<=d
  ·by_cases hd2:d<=2
   ·have HE:Hid (bd=true):=HBD.out.symm.trans (decide_eq_true ⟨hd0,hd2⟩)
    go_wp2_with fail
    go_meet
    exact ⟨by rw [HE.out],rfl⟩
   ·have HE:Hid (bd=false):=HBD.out.symm.trans (decide_eq_false fun h=>hd2 h.2)
    go_wp2_with fail
    go_meet
    exact ⟨by rw [HE.out],rfl⟩
  ·have HE:Hid (bd=false):=HBD.out.symm.trans (decide_eq_false fun h=>hd0 h.1)
   go_wp2_with fail
   go_meet
   exact ⟨by rw [HE.out],rfl⟩
 case rest =>
 rename World=>wx
 obtain ⟨rfl,hwx⟩:=hcut
 subst hwx
 go_upto_if 54 with (fail)
 go_cut [] (fun wz=>Ext wx wz)
 case first =>
  cases bd
  ·go_wp2_with fail
   go_meet
   exact Ext.refl _
  have hge:=qpd (fun _=>True) s hsm _ d wx (RSy.good.bel HX.out HX3.out)
  obtain ⟨er,her⟩:∃ er,qee s d=er:=⟨_,rfl⟩
  obtain ⟨own,hown⟩:∃ own,qbi s d=own:=⟨_,rfl⟩
  rw [her,hown] at hge
  have HGE:=Hd her
  have HOWN:=Hd hown
  clear her hown
  by_cases he0:er=0
  rotate_left
  ·have hE':(er == 0)=false:=beq_eq_false_iff_ne.2 he0
   clear he0
   go_wp2_with fail
   refine hge.mono ?_
   rintro e4 w4 ⟨A4,c4,rfl,hO4,hE4⟩
   clear hO4
   go_wp2_with fail
   go_meet
   exact hE4
  subst he0
  go_wp2_with fail
  refine hge.mono ?_
  rintro e4 w4 ⟨A4,c4,rfl,hO4,hE4⟩
  have HX4:Hid (Ext w w4):=HX3.out.trans' hE4
  have HT4:=Hd (te_own hO4)
  have HE4:=Hd hE4
  clear d0 d1 d2 z1 hge hO4
  obtain ⟨hB,d0,d1,d2,z1⟩:=box3 HB3.out hE4
  have HB4:=Hd hB
  clear hE4 hB
  by_cases h6:(own.length:Int)<=60
  rotate_left
  ·go_wp2_with fail
   go_meet
   exact HE4.out
  go_wp2_with fail
  go_loopw [11,71] (fun v11 v71 wr=>∃ (k:Nat) (Ao:Option Addr) (co:Nat),k<=s.es.length∧v71 = .int .i64 k∧v11 = .slice Ao (noP s k).length co∧Ext w4 wr∧Hid (qab RMu 4 94 w4.heap.size (fun _=>True) wr (noP s k) (.slice Ao (noP s k).length co))) (fun _ v _=>s.es.length-(intOf v).toNat)
  case atStart=>exact ⟨0,none,0,Nat.zero_le _,rfl,rfl,Ext.refl _,qab.nil ..⟩
  case round =>
   obtain ⟨k,Ao,co,hk,rfl,rfl,hE,hO⟩:=hrel
   have HE:=Hd hE
   obtain ⟨hBr,e0,e1,e2,ez⟩:=box3 HB4.out hE
   have HBr:=Hd hBr
   by_cases hlt:k<s.es.length
   ·obtain ⟨be,oe,cse,rfl,hbe,_,_,hre,hce⟩:=(qb5.good.bel HES.out (HX4.out.trans' hE)).get k hlt
    obtain ⟨jf,jl,jt,rfl⟩:=id hre
    have k0:=hce.get 0 _
    have k1:=hce.get 1 _
    have k2:=hce.get 2 _
    simp only [Nat.add_zero] at k0
    have hme:=qen hlt
    obtain ⟨⟨f,l,t⟩,hxe⟩:∃ x,s.es[k]=x:=⟨_,rfl⟩
    rw [hxe] at k0 k1 k2 hme jf jl jt
    simp only at k0 k1 k2 jf jl jt
    have HJ:Hid (I64 l∧I64 t):=⟨jl,jt⟩
    have HME:=Hd hme
    have hw4:=hE.size
    clear hce hre hxe hme jf jl jt hE hBr d0 d1 d2 z1
    by_cases h5:k<5
    ·have HS:=Hd (noP_lt s h5)
     have hk5:(k:Int)<5:=by omega
     obtain ⟨ys,hys⟩:∃ ys,noP s k=ys:=⟨_,rfl⟩
     have hyl:=noP_len s k
     rw [hys] at hO HS hyl ⊢
     clear hys h5
     obtain ⟨We,hWe⟩:∃ W,wr.alloc (.cells #[.int .i64 f,.int .i64 l,.int .i64 t] 88)=W:=⟨_,rfl⟩
     have hXe:Ext wr We:=by rw [<- hWe];exact (Ext.refl wr).alloc _
     have hbx:qaf We wr.heap.size 88 [.int .i64 f,.int .i64 l,.int .i64 t]:=by rw [<- hWe];exact qaf.new wr 88 _
     have HWE:=Hd hWe
     have HXE:=Hd hXe
     clear hWe
     go_upto_region 13 with (fail)
     rw [HWE.out]
     obtain ⟨Be,hBe⟩:∃ p,wr.heap.size=p:=⟨_,rfl⟩
     rw [hBe] at hbx
     rw [hBe]
     have q0:=hbx.cell 0 _
     have q1:=hbx.cell 1 _
     have q2:=hbx.cell 2 _
     have qz:=hbx.lt
     have hI:I64 2∧I64 3∧I64 0∧I64 (k:Int):=by unfold I64;omega
     have hlit:=qii RMu.good (by decide) (W:=We) (e:=94) (xs:=[⟨2,k,t,0⟩,⟨3,k,0,l⟩]) (qiw (c:=[.int .i64 2,.int .i64 k,.int .i64 t,.int .i64 0]) ⟨hI.1,hI.2.2.2,HJ.out.2,hI.2.2.1,rfl⟩ rfl (qh3 (cs:=[.int .i64 3,.int .i64 k,.int .i64 0,.int .i64 l]) ⟨hI.2.1,hI.2.2.2,hI.2.2.1,HJ.out.1,rfl⟩ rfl)) (by simp)
     have hX9:=hXe.alloc (.cells #[.int .i64 2,.int .i64 k,.int .i64 t,.int .i64 0,.int .i64 3,.int .i64 k,.int .i64 0,.int .i64 l] 94)
     have hob:=fun q hq=>hO.out.own_lt (b:=q) hq
     obtain ⟨A2,c2,w2',hr2,ho2,hb2⟩:=pushN RMu.good (by decide) w4.heap.size 94 96 (.agg #[.int .i64 0,.int .i64 0,.int .i64 0,.int .i64 0]) 32 Tryz.underlying96 info94b rfl (by decide) (fun _=>True) _ ys _ _ _ (hO.out.ext RMu.good hX9) (mus_at hlit ⟨trivial,fun e=>by have:=(hob _ e).2;have:=hXe.size;omega⟩) (by have:=hX9.size;omega) (by simp;omega)
     have HO2:=Hd ho2
     have HX2:Hid (Ext w4 w2'):=Bt.new (HE.out.trans' hX9) hb2 fun q _ h=>(hob q h).1
     clear HWE hBe hbx k0 k1 k2 hlit hX9 hob ho2 hb2 hO hI hXe
     go_wp2_with (at_builtin;refine wpList_append_run rfl _ _ _ rfl _ _ _ rfl rfl hr2 ?_;clear hr2)
     go_roundw
     case rel=>exact ⟨k+1,A2,c2,by omega,by go_num,by rw [HS.out,List.length_append];rfl,HX2.out,by rw [HS.out,qh0,HME.out];exact HO2⟩
     case measure=>simp [intOf];omega
    ·have HS:=Hd (noP_ge s h5)
     have hk5:¬ (k:Int)<5:=by omega
     clear h5
     go_wp2_with fail
     go_roundw
     case rel=>exact ⟨k+1,Ao,co,by omega,by go_num,by rw [HS.out],bel,by rw [HS.out];exact hO.out.ext RMu.good bel⟩
     case measure=>simp [intOf];omega
   ·obtain rfl:k=s.es.length:=by omega
    have hx4r:=HX4.out.trans' hE
    have hsc:=Score_c s hsm hl16 _ own _ (noP s s.es.length) _ wr (RSy.good.bel HX.out hx4r) ((RSl.good RTe.good).bel HT4.out hE) (mu_own hO.out) (by have:=noP_len s s.es.length;omega)
    have hlaw:=own_law HGE.out
    rw [HOWN.out] at hlaw
    have HLAW:=Hd hlaw
    obtain ⟨nos,hnos⟩:∃ nos,noP s s.es.length=nos:=⟨_,rfl⟩
    rw [hnos] at hO hsc HLAW ⊢
    clear hlaw hnos d0 d1 d2 z1 hO hx4r
    go_wp2_with fail
    refine hsc.mono ?_
    intro e5 w5 h5
    obtain ⟨A5,c5,rfl,hO5,hE5⟩:=h5.good HLAW.out.2.1 HLAW.out.2.2.1
    have hcn:=qte (fun _=>True) (nos.map (qe9 s own)) true _ w5 (bs_own hO5)
    rw [decide_eq_false HLAW.out.2.2.2] at hcn
    have hE9:Hid (Ext wx w5):=HE4.out.trans' (HE.out.trans' hE5)
    clear hsc h5 hO5 hE5
    go_wp2_with fail
    refine hcn.mono ?_
    rintro e6 w6 ⟨rfl,rfl⟩
    go_wp2_with fail
    go_meet
    exact hE9.out
 case rest =>
 rename World=>w9
 have HX9:Hid (Ext w w9):=HX3.out.trans' hcut
 clear d0 d1 d2 z1
 obtain ⟨hB,d0,d1,d2,z1⟩:=box3 HB3.out hcut
 have HB9:=Hd hB
 have hsc:=Score_c s hsm hl16 _ ts _ ms _ w9 (RSy.good.bel HX.out HX9.out) ((RSl.good RTe.good).bel HT.out HX9.out) ((RSl.good RMu.good).bel HM.out HX9.out) (by omega)
 clear hB hcut HB3 HX3
 by_cases hg:qar s ts=0∧∀ m∈ms,qcv s m
 rotate_left
 ·have HG:=Hd hg
  clear hg
  go_wp2_with fail
  refine hsc.mono ?_
  intro e5 w5 h5
  obtain ⟨er,h0,rfl,hE5⟩:=h5.bad HG.out
  have hE':(er == 0)=false:=beq_eq_false_iff_ne.2 h0
  have HE5:Hid (Ext w w5):=HX9.out.trans' hE5
  clear h5 h0 hE5 hsc
  go_wp2_with fail
  go_ret
  exact ⟨rfl,HE5.out⟩
 have HG:=Hd hg
 clear hg
 go_wp2_with fail
 refine hsc.mono ?_
 intro e5 w5 h5
 obtain ⟨A5,c5,rfl,hO5,hE5⟩:=h5.good HG.out.1 HG.out.2
 have HX5:Hid (Ext w w5):=HX9.out.trans' hE5
 have HF5:=Hd (bs_own hO5)
 clear d0 d1 d2 z1
 obtain ⟨hB,d0,d1,d2,z1⟩:=box3 HB9.out hE5
 have HB5:=Hd hB
 clear h5 hO5 hE5 hB HB9 hsc
 go_wp2_with fail
 go_loopw [126] (fun v126 wr=>∃ k:Nat,k<=ms.length∧v126 = .int .i64 k∧Ext w5 wr) (fun v _=>ms.length-(intOf v).toNat)
 case atStart=>exact ⟨0,Nat.zero_le _,rfl,Ext.refl _⟩
 case round =>
  obtain ⟨k,hk,rfl,hE⟩:=hrel
  clear d0 d1 d2 z1
  obtain ⟨hBr,d0,d1,d2,z1⟩:=box3 HB5.out hE
  have HBr:=Hd hBr
  have HE:=Hd hE
  by_cases hlt:k<ms.length
  ·obtain ⟨bm,om,csm,rfl,hbm,_,_,hrm,hcm1⟩:=((RSl.good RMu.good).bel HM.out (HX5.out.trans' hE)).get k hlt
   have hkf:k<(ms.map (qe9 s ts)).length:=by rw [List.length_map];exact hlt
   obtain ⟨bf,of,csf,rfl,hbf,_,_,hrf,hcf⟩:=((RSl.good qae.good).bel HF5.out hE).get k hkf
   obtain rfl:csf=[.bool (ms.map (qe9 s ts))[k]]:=hrf
   rw [List.getElem_map] at hcf
   have hmo:=HG.out.2 _ (List.getElem_mem hlt)
   obtain ⟨m,hm⟩:∃ m,ms[k]=m:=⟨_,rfl⟩
   rw [hm] at hrm hcf hmo
   obtain ⟨jk,je,jt,jl,rfl⟩:=id hrm
   have n0:=hcm1.get 0 _
   have n1:=hcm1.get 1 _
   have n2:=hcm1.get 2 _
   have n3:=hcm1.get 3 _
   simp only [Nat.add_zero] at n0
   have g0:=hcf.get 0 _
   simp only [Nat.add_zero,Nat.mul_one] at g0
   obtain ⟨hok,hask,hfl⟩:=fail_law HG.out.1 hmo
   have hmt:=fun cm W (hW:Ext wr W) (hr:RMu (fun _=>True) W m cm)=>Mutate_c (fun _=>True) s hok hsm hl16 m hmo _ cm W (RSy.good.bel HX.out (HX5.out.trans' (HE.out.trans' hW))) hr
   have hfs:=fun cz W (hr:RSy (fun _=>True) W (qci s m) cz) (hW:Ext w W)=>Fails_c (fun _=>True) (qci s m) cz ts _ W hr ((RSl.good RTe.good).bel HT.out hW)
   rw [hask,hfl] at hfs
   obtain ⟨z,hz⟩:∃ z,qci s m=z:=⟨_,rfl⟩
   obtain ⟨i,hi⟩:∃ i,qa8 (qbg z) ts=i:=⟨_,rfl⟩
   rw [qe9] at g0
   rw [hz,hi] at hfs g0
   obtain ⟨fb,hfb⟩:∃ fb,decide (0<=i)=fb:=⟨_,rfl⟩
   rw [hfb] at hfs g0
   have HZ:=Hd hz
   have HRM:=Hd hrm
   have HG0:=Hd g0
   have hwr:=hE.size
   clear hcm1 hrm hcf hmo hm hask hfl hz hi hfb hE hBr hok
   go_wp2_with fail
   refine (hmt _ _ bel (RMu.good.bel HRM.out bel)).mono ?_
   rintro e6 w6 ⟨cz,rfl,hsy,hE6⟩
   rw [HZ.out] at hsy
   obtain ⟨j6,v1,v2,rfl,hv1,hv2⟩:=id hsy
   obtain ⟨A6,c6,rfl,_,_⟩:=hv1.val
   obtain ⟨A7,c7,rfl,_,_⟩:=hv2.val
   have hXa:Ext wr w6:=Ext.trans' ((Ext.refl wr).alloc (.cells #[.int .i64 m.k,.int .i64 m.e,.int .i64 m.t,.int .i64 m.l] 94)) hE6
   have HXA:=Hd hXa
   have HSY:=Hd (RSy.good.mono hsy (S':=fun _=>True) fun _ _ _=>trivial)
   clear hsy hv1 hv2 hmt n0 n1 n2 n3 d0 d1 d2 z1 hE6
   have g0':=Ext.keep hXa HG0.out
   clear g0 hXa
   go_wp2_with fail
   refine (hfs _ _ (RSy.good.bel HSY.out bel) (HX5.out.trans' (HE.out.trans' (HXA.out.trans' bel)))).mono ?_
   rintro e7 w7 ⟨rfl,hE7⟩
   have HX7:Hid (Ext wr w7):=HXA.out.trans' (Ext.trans' ((Ext.refl w6).alloc (.cells #[.int .i64 z.n,.slice A6 z.ls.length c6,.slice A7 z.es.length c7] 25)) hE7)
   have g0:=Ext.keep HX7.out HG0.out
   clear g0' hfs hE7
   cases fb
   all_goals
    go_wp2_with fail
    go_roundw
    case rel=>exact ⟨k+1,by omega,by go_num,HE.out.trans' HX7.out⟩
    case measure=>simp [intOf];omega
  ·go_wp2_with fail
   go_ret
   exact ⟨rfl,HX5.out.trans' HE.out⟩
end
end Go.Proofs.YtegenalcheooeaaGreat
