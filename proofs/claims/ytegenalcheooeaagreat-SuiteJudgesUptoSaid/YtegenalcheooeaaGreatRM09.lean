/- Of the proof of a law of the suites: RTest, RefRefuses, RVerd, RTests, PJudg, RFailsS, RVerdS, PSound, RConf. -/
import Derived.Test.YtegenalcheooeaaGreatB05
import Derived.Test.YtegenalcheooeaaGreatB14
import Derived.Test.YtegenalcheooeaaGreatB15
import Derived.Test.YtegenalcheooeaaGreatB22
import Derived.Test.YtegenalcheooeaaGreatB25
import Derived.Test.YtegenalcheooeaaGreatRM01
import Derived.Test.YtegenalcheooeaaGreatRM02
import Derived.Test.YtegenalcheooeaaGreatRM03
import Derived.Test.YtegenalcheooeaaGreatRM04
import Derived.Test.YtegenalcheooeaaGreatRM05
import Derived.Test.YtegenalcheooeaaGreatRM08
set_option linter.unusedSectionVars false
set_option linter.unusedSimpArgs false
set_option linter.unusedVariables false
namespace Go.Proofs.YtegenalcheooeaaGreat
open Go.RowKit
attribute [local go_sem] cell?_exto
section
set_option maxHeartbeats 1000000
set_option maxRecDepth 100000
/- The reference's Set,IsTest,CheckTest: walked. -/
theorem Set_c (S:Nat->Prop) (l:List Lb) (v:Value) (w:World) (hx:qaa S w l [v]) :
  Calls Tryz.prog 109 #[v] w fun e w'=>e = .returned (.bool (qbm l))∧Ext w w':=by
 have hcon:=fun W (hb:Ext w W)=>right_c S l v W (qaa.good.bel hx hb)
 obtain ⟨A,c,rfl,hc,hc0⟩:=hx.val
 have HX:=Hd hx
 clear hx
 by_cases h64:l.length<=64
 rotate_left
 ·have HV:=Hd (show qbm l=false from by simp [qbm,h64])
  clear hcon
  go_enter Tryz.func109,Tryz.ntmps109
  go_wp2_with fail
  go_ret
  exact ⟨by rw [HV.out];rfl,bel⟩
 cases ho:l.all okV
 ·have HV:=Hd (show qbm l=false from by simp [qbm,ho])
  rw [ho] at hcon
  clear ho
  go_enter Tryz.func109,Tryz.ntmps109
  go_wp2_with fail
  refine (hcon _ bel).mono ?_
  rintro e w1 ⟨rfl,h1⟩
  go_wp2_with fail
  go_ret
  exact ⟨by rw [HV.out];rfl,bel⟩
 have HV:=Hd (show qbm l=qfi l from by simp [qbm,ho,h64])
 rw [ho] at hcon
 clear ho
 go_enter Tryz.func109,Tryz.ntmps109
 go_wp2_with fail
 refine (hcon _ bel).mono ?_
 rintro e w1 ⟨rfl,h1⟩
 replace HX:=Hd (qaa.good.bel HX.out h1)
 clear hcon
 go_wp2_with fail
 go_loopw [3] (fun i wr=>∃ k:Nat,1<=k∧(k=1∨k<=l.length)∧i = .int .i64 k∧qaf w1 wr∧Hid (∀ j,(h:j+1<l.length)->j+1<k->qan l[j] l[j+1]<0)) (fun i _=>l.length-(intOf i).toNat)
 case atStart=>exact ⟨1,by omega,.inl rfl,rfl,qaf.refl _,fun j _ hj=>absurd hj (by omega)⟩
 case round =>
  obtain ⟨k,hk1,hk,rfl,hE,hz⟩:=hrel
  by_cases hlt:k<l.length
  ·obtain ⟨k,rfl⟩:∃ m,k=m+1:=⟨k-1,by omega⟩
   have hk0:k<l.length:=by omega
   obtain ⟨b,off,cs,rfl,hb,hs,hl,hr,hcell⟩:=(qaa.good.ext HX.out hE).get k hk0
   obtain ⟨b',off',cs',he,hb',hs',hl',hr',hcell'⟩:=(qaa.good.ext HX.out hE).get (k+1) hlt
   injection he with he
   injection he with he1 he2
   subst he1 he2
   obtain ⟨_,v1,rfl,hv1⟩:=id hr
   obtain ⟨_,v2,rfl,hv2⟩:=id hr'
   have g0:=hcell.get 0 _
   have g1:=hcell.get 1 _
   have g0':=hcell'.get 0 _
   have g1':=hcell'.get 1 _
   simp only [Nat.add_zero] at g0 g0'
   have hcmp:=fun W (hW:qaf wr W)=>qo8 S _ _ _ _ W (RLb.good.ext hr hW) (RLb.good.ext hr' hW)
   have z1:(0:Int)<=(k:Int):=by omega
   have z2:((k:Int)+1)<(l.length:Int):=by omega
   have z3:(0:Int)<=(k:Int)+1:=by omega
   have z4:(k:Int)<(l.length:Int):=by omega
   clear hcell hcell' hl hl' hs hs' hv1 hv2 hr hr'
   have y1:IntKind.i64.wrap ((k:Int)+1-1)=(k:Int):=by rw [IntWalk.i64_in _ (by omega)];omega
   have y2:IntKind.i64.wrap (k:Int)=(k:Int):=IntWalk.i64_in _ (by omega)
   by_cases hc2:qan l[k] l[k+1]<0
   ·have HC:=Hd hc2
    have hd:decide (qan l[k] l[k+1] ≥ 0)=false:=by simp;omega
    have hd':decide (0<=qan l[k] l[k+1])=false:=by simp;omega
    clear hc2
    go_wp2_with fail
    go_region_held3 (fun W=>W.cell? ⟨b,off+k*2,none⟩=some (.int .i64 l[k].g)∧W.cell? ⟨b,off+k*2+1,none⟩=some v1∧W.cell? ⟨b,off+(k+1)*2,none⟩=some (.int .i64 l[k+1].g)∧W.cell? ⟨b,off+(k+1)*2+1,none⟩=some v2)
     (first | (refine ⟨?_,?_,?_,?_⟩ <;> go_simp <;> done) | exact hx1.k4 (by assumption) | exact ((qaf.refl _).alloc _).k4 (by assumption))
     (first | (go_at_call 172;refine (hcmp _ qaj).mono ?_;rintro e w2 ⟨rfl,hx1⟩))
    clear y1 y2
    go_wp2_with fail
    go_roundw
    case rel =>
     refine ⟨k+1+1,by omega,.inr (by omega),by go_num,qaj,fun j h hj=>?_⟩
     rcases Nat.lt_or_ge j k with h' | h'
     ·exact hz j h (by omega)
     ·obtain rfl:j=k:=by omega
      exact HC.out
    case measure=>simp [intOf];omega
   ·have HC:=Hd (show qfi l=false from by
     cases h:qfi l with
     | false=>rfl
     | true=>exact absurd ((qhy l).1 h k hlt) hc2)
    have hd':0<=qan l[k] l[k+1]:=by omega
    clear hc2
    go_wp2_with fail
    go_region_held3 (fun W=>W.cell? ⟨b,off+k*2,none⟩=some (.int .i64 l[k].g)∧W.cell? ⟨b,off+k*2+1,none⟩=some v1∧W.cell? ⟨b,off+(k+1)*2,none⟩=some (.int .i64 l[k+1].g)∧W.cell? ⟨b,off+(k+1)*2+1,none⟩=some v2)
     (first | (refine ⟨?_,?_,?_,?_⟩ <;> go_simp <;> done) | exact hx1.k4 (by assumption) | exact ((qaf.refl _).alloc _).k4 (by assumption))
     (first | (go_at_call 172;refine (hcmp _ qaj).mono ?_;rintro e w2 ⟨rfl,hx1⟩))
    clear y1 y2
    go_wp2_with fail
    go_ret
    exact ⟨by rw [HV.out,HC.out];rfl,bel⟩
  ·have HC:=Hd ((qhy l).2 fun i hi=>hz i hi (by omega))
   clear hz
   go_wp2_with fail
   go_ret
   exact ⟨by rw [HV.out,HC.out];rfl,bel⟩
theorem qm3 (S:Nat->Prop) (t:Te) (cs:List Value) (w:World) (hx:RTe S w t cs) :
  Calls Tryz.prog 111 #[.agg cs.toArray] w fun e w'=>e = .returned (.bool (qa6 t))∧Ext w w':=by
 obtain ⟨v,u,rfl,hv,hu⟩:=id hx
 have h1:=fun W (hb:Ext w W)=>qk1 S t.tr v W (qaa.good.bel hv hb)
 have h2:=fun W (hb:Ext w W)=>Set_c S t.mu u W (qaa.good.bel hu hb)
 obtain ⟨A,c,rfl,hc,hc0⟩:=hv.val
 obtain ⟨A',c',rfl,hc',hc0'⟩:=hu.val
 clear hx hv hu
 cases ha:qa8 t.tr with
 | false =>
  have HV:=Hd (show qa6 t=false from by simp [qa6,ha])
  rw [ha] at h1
  clear ha h2
  go_enter Tryz.func111,Tryz.ntmps111
  go_wp2_with fail
  refine (h1 _ bel).mono ?_
  rintro e w1 ⟨rfl,hw1⟩
  go_wp2_with fail
  go_ret
  exact ⟨by rw [HV.out];rfl,bel⟩
 | true =>
  rw [ha] at h1
  cases hb:qbm t.mu with
  | false =>
   have HV:=Hd (show qa6 t=false from by simp [qa6,hb])
   rw [hb] at h2
   clear ha hb
   go_enter Tryz.func111,Tryz.ntmps111
   go_wp2_with fail
   refine (h1 _ bel).mono ?_
   rintro e w1 ⟨rfl,hw1⟩
   have hc1:=hw1.cells
   go_wp2_with fail
   refine (h2 _ bel).mono ?_
   rintro e w2 ⟨rfl,hw2⟩
   go_wp2_with fail
   go_ret
   exact ⟨by rw [HV.out];rfl,bel⟩
  | true =>
   rw [hb] at h2
   have hmk:qa6 t=decide (0<t.mu.length):=by simp [qa6,ha,hb]
   clear ha hb
   obtain ⟨n,hn⟩:∃ n,t.mu.length=n:=⟨_,rfl⟩
   rw [hn] at hc' h2 hmk
   rw [hn]
   clear hn
   by_cases hz:0<n
   ·have HV:=Hd (hmk.trans (decide_eq_true hz))
    clear hmk
    go_enter Tryz.func111,Tryz.ntmps111
    go_wp2_with fail
    refine (h1 _ bel).mono ?_
    rintro e w1 ⟨rfl,hw1⟩
    have hc1:=hw1.cells
    have hsz:w.heap.size<w1.heap.size:=by have:=hw1.size;simp at this;omega
    go_wp2_with fail
    refine (h2 _ bel).mono ?_
    rintro e w2 ⟨rfl,hw2⟩
    have hc2:=hw2.cells
    go_wp2_with fail
    go_ret
    exact ⟨by rw [HV.out];rfl,bel⟩
   ·have HV:=Hd (hmk.trans (decide_eq_false hz))
    clear hmk
    go_enter Tryz.func111,Tryz.ntmps111
    go_wp2_with fail
    refine (h1 _ bel).mono ?_
    rintro e w1 ⟨rfl,hw1⟩
    have hc1:=hw1.cells
    have hsz:w.heap.size<w1.heap.size:=by have:=hw1.size;simp at this;omega
    go_wp2_with fail
    refine (h2 _ bel).mono ?_
    rintro e w2 ⟨rfl,hw2⟩
    have hc2:=hw2.cells
    go_wp2_with fail
    go_ret
    exact ⟨by rw [HV.out];rfl,bel⟩
end
section
open Go.Shelf
end
section
open Go.Shelf
def qfq (s:Sy) (n:Nat) (tr:List Lb) (k:Nat):Bool:=(List.range k).any fun i=>match tr[i]? with | some x=>qda s n (qa2 s n (tr.take i)) [x] n | none=>false
theorem qwe (s:Sy) (n:Nat) (tr:List Lb) {k:Nat} (h:k<tr.length):qfq s n tr (k+1)=(qfq s n tr k || qda s n (qa2 s n (tr.take k)) [tr[k]] n):=by
 rw [qfq,qfq,List.range_succ,List.any_append,List.any_cons,List.any_nil,Bool.or_false,List.getElem?_eq_getElem h]
def qfj (s:Sy) (n:Nat) (bs:List Bool) (mu:List Lb) (k:Nat):Bool:=(List.range k).any fun i=>qcy bs i && qff s n i mu
theorem qwt (s:Sy) (n:Nat) (bs:List Bool) (mu:List Lb) (k:Nat):qfj s n bs mu (k+1)=(qfj s n bs mu k || (qcy bs k && qff s n k mu)):=by
 rw [qfj,qfj,List.range_succ,List.any_append,List.any_cons,List.any_nil,Bool.or_false]
theorem one_lb {S:Nat->Prop} {W:World} {x:Lb} {g:Int} {vl:Value} (hg:x.g=g) (hx:RLb S W x [.int .i64 g,vl]):qaa (fun _=>True) (W.alloc (.cells #[.int .i64 g,vl] 61)) [x] [.slice (some ⟨W.heap.size,0,none⟩) 1 1]:=by
 subst hg
 refine ⟨_,1,rfl,by simp,by decide,.inr ⟨W.heap.size,0,rfl,by rw [World.size_alloc];omega,trivial,⟨[.int .i64 x.g,vl],rfl,?_,fun i u h=>by have:=qea W #[.int .i64 x.g,vl] 61 i u h;rwa [Addr.add_lit] at this⟩,trivial⟩⟩
 exact RLb.good.bel (RLb.good.mono hx fun q hq h=>trivial) ((Ext.refl W).alloc _)
theorem tkn {P:Program} {md:Region.Mode} {ops:Array Oper} {Q:Exit->Act->World->Prop} {S:World->Prop} (i:Nat) {oi:Oper} {fuel:Nat} {listed:Array Bool} {a:Act} {w:World}
  (h:wpAnyH P md ops Q S fuel (listed.setIfInBounds i true) (a.put oi.dst undef) w) (hi:ops[i]? = some oi:=by exact rfl) (hs:Region.noSelect ops=true:=by kernel_rfl) (hf:Region.free md ops listed i=true:=by kernel_rfl)
  (hr:(Region.ready md ops listed).contains i=true:=by kernel_rfl) (hQ:∀ c a w,Q (.panic c) (a.put oi.dst undef) w->Q (.panic c) a w:=by exact fun _ _ _ h=>h) (hn:Region.wanted oi (yielded ops a.tmps)=false:=by kernel_rfl)
  (hS:S w:=by assumption):wpAnyH P md ops Q S (fuel+1) listed a w :=
 wpAnyH_take hi hs hf hr hQ (Or.inr ⟨hn,rfl⟩) hS h
def V3Post (o f p:Bool) (w:World) (e:Ending) (w':World):Prop:=e = .returned (.tuple #[.bool o,.bool f,.bool p])∧Ext w w'
set_option maxHeartbeats 16000000 in
set_option maxRecDepth 100000 in
theorem qqz (S:Nat->Prop) (s:Sy) (hok:qah s) (cs:List Value) (n:Nat) (hn:s.n=(n:Int)) (t:Te) (ct:List Value) (w:World) (hx:RSy S w s cs) (ht:RTe S w t ct) (hl:t.tr.length<=1000000) :
  Calls Tryz.prog 125 #[.agg ct.toArray,.agg cs.toArray] w (V3Post (qfq s n t.tr t.tr.length) (qda s n (qa2 s n t.tr) t.mu n) (qfj s n (qa2 s n t.tr) t.mu n) w):=by
 have hn1:n<=20000:=by have:=hok.2.1;omega
 have hX:RSy (fun _=>True) w s cs:=RSy.good.mono hx fun _ _ _=>trivial
 have hst:=fun W (hW:Ext w W)=>qn0 (fun _=>True) s hok cs n hn W (RSy.good.bel hX hW)
 have hmv:=fun W (hW:Ext w W) bs (hb:bs.length=n) u (hu:RSl qad 1 (fun _=>True) W bs [u]) x cx (hc:RLb (fun _=>True) W x cx)=>qot (fun _=>True) s hok cs n hn bs hb u x cx W (RSy.good.bel hX hW) hu hc
 have hrf:=fun W (hW:Ext w W) bs (hb:bs.length=n) u (hu:RSl qad 1 (fun _=>True) W bs [u]) l v (hc:qaa (fun _=>True) W l [v])=>qro (fun _=>True) s hok cs n hn bs hb l u v W (RSy.good.bel hX hW) hu hc
 have hacp:=fun st (hs:st<n) W (hW:Ext w W) l v (hc:qaa (fun _=>True) W l [v])=>quc (fun _=>True) s hok cs n st hn hs l v W (RSy.good.bel hX hW) hc
 have hal:=fun k=>qjd s n hn (t.tr.take k)
 have hal0:=qjd s n hn t.tr
 obtain ⟨_,v1,u1,rfl,hv,hu⟩:=id hx
 obtain ⟨Al,cl,rfl,hcl1,hcl0⟩:=hv.val
 obtain ⟨Ae,ce,rfl,hce,hce0⟩:=hu.val
 obtain ⟨vt,vm,rfl,htr,hmu⟩:=id ht
 obtain ⟨At,ct,rfl,hct,hct0⟩:=htr.val
 obtain ⟨Am,cm,rfl,hcm,hcm0⟩:=hmu.val
 have HT:Hid (qaa (fun _=>True) w t.tr [.slice At t.tr.length ct]):=qaa.good.mono htr fun _ _ _=>trivial
 have HM:Hid (qaa (fun _=>True) w t.mu [.slice Am t.mu.length cm]):=qaa.good.mono hmu fun _ _ _=>trivial
 rw [hn] at hst hmv hrf hacp ⊢
 have HMV:=Hd hmv
 have HRF:=Hd hrf
 have HACP:=Hd hacp
 have HAL:=Hd hal
 have HAL0:=Hd hal0
 clear hx hv hu ht htr hmu hn hok hX hmv hrf hacp hal hal0
 obtain ⟨Wa,hWa⟩:∃ Wa,w.alloc (.cells #[.slice At t.tr.length ct,.slice Am t.mu.length cm] 40)=Wa:=⟨_,rfl⟩
 have hBa:qag Wa w.heap.size 40 [.slice At t.tr.length ct,.slice Am t.mu.length cm]:=by rw [<- hWa];exact qag.new w 40 _
 have hza:Wa.heap.size=w.heap.size+1:=by rw [<- hWa,World.size_alloc]
 have hEa:Ext w Wa:=by rw [<- hWa];exact (Ext.refl w).alloc _
 obtain ⟨W0,hW0⟩:∃ W0,Wa.alloc (.cells #[.int .i64 (n:Int),.slice Al s.ls.length cl,.slice Ae s.es.length ce] 25)=W0:=⟨_,rfl⟩
 have hBx:qag W0 (w.heap.size+1) 25 [.int .i64 (n:Int),.slice Al s.ls.length cl,.slice Ae s.es.length ce]:=by rw [<- hW0,<- hza];exact qag.new Wa 25 _
 have hE0:Ext Wa W0:=by rw [<- hW0];exact (Ext.refl Wa).alloc _
 obtain ⟨p0,hp0⟩:∃ p0,w.heap.size=p0:=⟨_,rfl⟩
 have HBt:=Hd (hBa.ext hE0)
 have HBs:=Hd hBx
 have HE0:=Hd (hEa.trans' hE0)
 rw [hp0] at HBt HBs
 have HP0:=Hd hp0
 have HWa:=Hd hWa
 have HW0:=Hd hW0
 have HZA:=Hd hza
 have y0:=HBt.out.cell 0 _
 have y1:=HBt.out.cell 1 _
 have yz:=HBt.out.lt
 have x0:=HBs.out.cell 0 _
 have x1:=HBs.out.cell 1 _
 have x2:=HBs.out.cell 2 _
 have xz:=HBs.out.lt
 have hst0:=hst W0 HE0.out
 clear hBa hBx hEa hE0 hWa hW0 hza hp0 hst
 go_enter Tryz.func125,Tryz.ntmps125
 go_upto_region 1 with (fail)
 rw [HWa.out,HW0.out,HP0.out]
 go_wp2_with fail
 refine hst0.mono ?_
 rintro e w1 ⟨A,c,rfl,ho,h1⟩
 have HE1:=Hd (HE0.out.trans' h1)
 have HBt1:=Hd (HBt.out.ext h1)
 have HBs1:=Hd (HBs.out.ext h1)
 have HO:Hid (RSl qad 1 (fun _=>True) w1 (qa2 s n []) [.slice A n c]):=(RSl.good qad.good).mono (ho.sl qad.good (by decide)) fun _ _ _=>trivial
 clear ho x0 x1 x2 xz y0 y1 yz hst0
 have y0:=HBt1.out.cell 0 _
 have y1:=HBt1.out.cell 1 _
 have yz:=HBt1.out.lt
 go_wp2_with fail
 clear y0 y1 yz
 go_loopw [7,8,9] (fun v7 vo vi wr=>∃ (k:Nat) (A:Option Addr) (c:Nat) (ob:Bool),k<=t.tr.length∧vi = .int .i64 k∧vo = .bool ob∧v7 = .slice A n c∧Ext w1 wr∧Hid (qfq s n t.tr k=ob)∧Hid (RSl qad 1 (fun _=>True) wr (qa2 s n (t.tr.take k)) [.slice A n c])) (fun _ _ vi _=>t.tr.length-(intOf vi).toNat)
 case atStart=>exact ⟨0,A,c,false,Nat.zero_le _,rfl,rfl,rfl,Ext.refl _,(rfl:qfq s n t.tr 0=false),HO.out⟩
 case round =>
  obtain ⟨k,A,c,ob,hk,rfl,rfl,rfl,hE,hob,hST⟩:=hrel
  have hEw:=HE1.out.trans' hE
  have hb1:=HBt1.out.ext hE
  have hb2:=HBs1.out.ext hE
  have y0:=hb1.cell 0 _
  have y1:=hb1.cell 1 _
  have yz:=hb1.lt
  have x0:=hb2.cell 0 _
  have x1:=hb2.cell 1 _
  have x2:=hb2.cell 2 _
  have xz:=hb2.lt
  clear hb1 hb2
  have z1:(0:Int)<=(k:Int):=by omega
  by_cases hkl:k<t.tr.length
  ·obtain ⟨b,off,cs2,rfl,hbw,_,_,hr,hcell⟩:=HT.out.get k hkl
   have HR:=Hd hr
   obtain ⟨_,vl,rfl,hvl⟩:=id hr
   have g0:=Ext.keep hEw (hcell.get 0 _)
   have g1:=Ext.keep hEw (hcell.get 1 _)
   simp only [Nat.add_zero] at g0
   have hb:b<wr.heap.size:=Nat.lt_of_lt_of_le hbw hEw.size
   have z2:(k:Int)<(t.tr.length:Int):=by omega
   have hk1:k+1<=t.tr.length:=hkl
   have hro:=qwe s n t.tr hkl
   rw [hob.out] at hro
   have HSN:Hid (qc1 s (marksOf n (mvL s t.tr[k] (qa2 s n (t.tr.take k)) s.es.length))=qa2 s n (t.tr.take (k+1))):=by
    show _=_
    rw [List.take_succ_eq_append_getElem hkl,qpf]
    rfl
   obtain ⟨x,hxx⟩:∃ x,t.tr[k]=x:=⟨_,rfl⟩
   rw [hxx] at g0 HR hro HSN
   obtain ⟨gx,hgx⟩:∃ gx,x.g=gx:=⟨_,rfl⟩
   rw [hgx] at g0 HR
   have HGX:=Hd hgx
   have hmv:=fun W (hW:Ext wr W)=>HMV.out W (hEw.trans' hW) (qa2 s n (t.tr.take k)) (HAL.out k) _ ((RSl.good qad.good).bel hST.out hW) x _ (RLb.good.bel HR.out (hEw.trans' hW))
   obtain ⟨NB,hNB⟩:∃ NB,qc1 s (marksOf n (mvL s x (qa2 s n (t.tr.take k)) s.es.length))=NB:=⟨_,rfl⟩
   rw [hNB] at hmv HSN
   have hrf:=fun W (hW:Ext wr W)=>HRF.out (W.alloc (.cells #[.int .i64 gx,vl] 61)) ((hEw.trans' hW).trans' ((Ext.refl W).alloc _)) (qa2 s n (t.tr.take k)) (HAL.out k) _ ((RSl.good qad.good).bel hST.out (hW.trans' ((Ext.refl W).alloc _))) [x] _ (one_lb HGX.out (RLb.good.bel HR.out (hEw.trans' hW)))
   obtain ⟨rb,hrb⟩:∃ rb,qda s n (qa2 s n (t.tr.take k)) [x] n=rb:=⟨_,rfl⟩
   rw [hrb] at hrf hro
   have HRO:=Hd hro
   obtain ⟨w7,rfl⟩:∃ w7,w7=wr:=⟨_,rfl⟩
   clear hr hcell hvl hxx hgx hNB hrb hro
   cases ob
   ·go_wp2_with fail
    refine wp_region_held (S:=fun W=>W.cell? ⟨p0+1,0,none⟩=some (.int .i64 (n:Int))∧W.cell? ⟨p0+1,1,none⟩=some (.slice Al s.ls.length cl)∧W.cell? ⟨p0+1,2,none⟩=some (.slice Ae s.es.length ce)∧W.cell? ⟨p0,0,none⟩=some (.slice (some ⟨b,off,none⟩) t.tr.length ct)∧W.cell? ⟨b,off+k*2,none⟩=some (.int .i64 gx)∧W.cell? ⟨b,off+k*2+1,none⟩=some vl) (by kernel_rfl) ?_
    show wpAnyH _ _ _ _ _ _ _ _ w7.drew
    have hHeld:w7.drew.cell? ⟨p0+1,0,none⟩=some (.int .i64 (n:Int))∧w7.drew.cell? ⟨p0+1,1,none⟩=some (.slice Al s.ls.length cl)∧w7.drew.cell? ⟨p0+1,2,none⟩=some (.slice Ae s.es.length ce)∧w7.drew.cell? ⟨p0,0,none⟩=some (.slice (some ⟨b,off,none⟩) t.tr.length ct)∧w7.drew.cell? ⟨b,off+k*2,none⟩=some (.int .i64 gx)∧w7.drew.cell? ⟨b,off+k*2+1,none⟩=some vl:=⟨x0,x1,x2,y0,g0,g1⟩
    obtain ⟨Wd,hWd⟩:∃ Wd,w7.drew=Wd:=⟨_,rfl⟩
    have hXd:Ext w7 Wd:=hWd ▸ Below.drew (Ext.refl _)
    rw [hWd] at hHeld ⊢
    clear hWd
    (refine tk 0 ?_;try simp only [qae])
    (refine tk 1 ?_;try simp only [qae])
    (refine tk 2 ?_ (hi:=by exact rfl) (hn:=by kernel_rfl);(try simp only [Act.put,List.setIfInBounds_toArray,List.set_cons_zero,List.set_cons_succ]))
    (refine tk 3 ?_ (hi:=by exact rfl) (hn:=by kernel_rfl);(try simp only [Act.put,List.setIfInBounds_toArray,List.set_cons_zero,List.set_cons_succ]))
    (refine tk 4 ?_ (hi:=by exact rfl) (hn:=by kernel_rfl);(try simp only [Act.put,List.setIfInBounds_toArray,List.set_cons_zero,List.set_cons_succ]))
    (refine tk 5 ?_ (hi:=by exact rfl) (hn:=by kernel_rfl);(try simp only [Act.put,List.setIfInBounds_toArray,List.set_cons_zero,List.set_cons_succ]))
    (refine tk 6 ?_ (hi:=by exact rfl) (hn:=by kernel_rfl);(try simp only [Act.put,List.setIfInBounds_toArray,List.set_cons_zero,List.set_cons_succ]))
    (refine tk 7 ?_ (hi:=by exact rfl) (hn:=by kernel_rfl);(try simp only [Act.put,List.setIfInBounds_toArray,List.set_cons_zero,List.set_cons_succ]))
    (refine tk 8 ?_ (hi:=by exact rfl) (hn:=by kernel_rfl);(try simp only [Act.put,List.setIfInBounds_toArray,List.set_cons_zero,List.set_cons_succ]))
    refine wpAnyH_ready (rs:=[9]) (by kernel_rfl) (by simp) ?_
    refine AllReadyH.cons rfl (fun K hK=>?_) AllReadyH.nil
    go_simp
    have hHeld6:=Ext.k6 ((Ext.refl Wd).alloc (.cells #[.int .i64 gx,vl] 61)) hHeld
    refine hK.out _ _ hHeld6 (fun _=>?_)
    clear hK K
    try simp only [Act.put,List.setIfInBounds_toArray,List.set_cons_zero,List.set_cons_succ]
    refine wpAnyH_ready (rs:=[10]) (by kernel_rfl) (by simp) ?_
    refine AllReadyH.cons rfl (fun K hK=>?_) AllReadyH.nil
    go_simp
    refine (hrf Wd hXd).mono ?_
    rintro e w4 ⟨rfl,hx4⟩
    refine hK.out _ _ (Ext.k6 hx4 hHeld6) (fun hHeld7=>?_)
    have hX4:Ext w7 w4:=(hXd.trans' ((Ext.refl Wd).alloc _)).trans' hx4
    clear hK K
    try simp only [Act.put,List.setIfInBounds_toArray,List.set_cons_zero,List.set_cons_succ]
    (refine tk 11 ?_;(try simp only [Act.put,List.getElem_toArray,List.getElem_cons_succ,List.getElem_cons_zero,List.setIfInBounds_toArray,List.set_cons_zero,List.set_cons_succ]))
    (refine tk 12 ?_;(try simp only [Act.put,List.getElem_toArray,List.getElem_cons_succ,List.getElem_cons_zero,List.setIfInBounds_toArray,List.set_cons_zero,List.set_cons_succ]))
    refine wpAnyH_done (by kernel_rfl) ?_ _
    obtain ⟨c0,c1,c2,d0,e0,e1⟩:=hHeld7
    have q1:=Nat.lt_of_lt_of_le xz hX4.size
    have q2:=Nat.lt_of_lt_of_le yz hX4.size
    have q3:=Nat.lt_of_lt_of_le hb hX4.size
    clear hHeld hHeld6 x0 x1 x2 y0 y1 g0 g1 hrf
    go_wp2_with fail
    refine wp_region_held (S:=fun W=>W.cell? ⟨p0+1,0,none⟩=some (.int .i64 (n:Int))∧W.cell? ⟨p0+1,1,none⟩=some (.slice Al s.ls.length cl)∧W.cell? ⟨p0+1,2,none⟩=some (.slice Ae s.es.length ce)∧W.cell? ⟨p0,0,none⟩=some (.slice (some ⟨b,off,none⟩) t.tr.length ct)∧W.cell? ⟨b,off+k*2,none⟩=some (.int .i64 gx)∧W.cell? ⟨b,off+k*2+1,none⟩=some vl) (by kernel_rfl) ?_
    show wpAnyH _ _ _ _ _ _ _ _ w4.drew
    have hHeld:w4.drew.cell? ⟨p0+1,0,none⟩=some (.int .i64 (n:Int))∧w4.drew.cell? ⟨p0+1,1,none⟩=some (.slice Al s.ls.length cl)∧w4.drew.cell? ⟨p0+1,2,none⟩=some (.slice Ae s.es.length ce)∧w4.drew.cell? ⟨p0,0,none⟩=some (.slice (some ⟨b,off,none⟩) t.tr.length ct)∧w4.drew.cell? ⟨b,off+k*2,none⟩=some (.int .i64 gx)∧w4.drew.cell? ⟨b,off+k*2+1,none⟩=some vl:=⟨c0,c1,c2,d0,e0,e1⟩
    obtain ⟨We,hWe⟩:∃ We,w4.drew=We:=⟨_,rfl⟩
    have hXe:Ext w4 We:=hWe ▸ Below.drew (Ext.refl _)
    rw [hWe] at hHeld ⊢
    clear hWe
    (refine tk 0 ?_;try simp only [qae])
    (refine tk 1 ?_;try simp only [qae])
    (refine tk 2 ?_;try simp only [qae])
    (refine tk 3 ?_;try simp only [qae])
    (refine tk 4 ?_;try simp only [qae])
    (refine tk 5 ?_;try simp only [qae])
    (refine tk 6 ?_;try simp only [qae])
    refine wpAnyH_ready (rs:=[7]) (by kernel_rfl) (by simp) ?_
    refine AllReadyH.cons rfl (fun K hK=>?_) AllReadyH.nil
    go_simp
    refine (hmv _ (hX4.trans' hXe)).mono ?_
    rintro e w5 ⟨A5,c5,rfl,ho5,hx1⟩
    refine hK.out _ _ (Ext.k6 hx1 hHeld) (fun hHeld9=>?_)
    clear hK K
    try simp only [Act.put,List.setIfInBounds_toArray,List.set_cons_zero,List.set_cons_succ]
    (refine tk 8 ?_;try simp only [qae])
    refine wpAnyH_done (by kernel_rfl) ?_ _
    clear hHeld hHeld9
    have hX5:Ext w7 w5:=hX4.trans' (hXe.trans' hx1)
    have HS5:Hid (RSl qad 1 (fun _=>True) w5 (qa2 s n (t.tr.take (k+1))) [.slice A5 n c5]):=by rw [<- HSN.out];exact (RSl.good qad.good).mono (ho5.sl qad.good (by decide)) fun _ _ _=>trivial
    have HR5:Hid (qfq s n t.tr (k+1)=rb):=by show _=_;rw [HRO.out,Bool.false_or]
    clear ho5
    go_wp2_with fail
    go_roundw
    case rel=>exact ⟨k+1,A5,c5,rb,hk1,by go_num,rfl,rfl,hE.trans' hX5,HR5.out,HS5.out⟩
    case measure=>simp [intOf];omega
   ·go_wp2_with fail
    refine wp_region_held (S:=fun _=>True) (by kernel_rfl) ?_
    show wpAnyH _ _ _ _ _ _ _ _ w7.drew
    have hHeld:True:=trivial
    obtain ⟨w4,hw4⟩:∃ w4,w7.drew=w4:=⟨_,rfl⟩
    have hX4:Ext w7 w4:=hw4 ▸ Below.drew (Ext.refl _)
    rw [hw4]
    clear hw4
    (refine tk 0 ?_;try simp only [qae])
    (refine tk 1 ?_;try simp only [qae])
    (refine tkn 2 ?_;(try simp only [Act.put,List.setIfInBounds_toArray,List.set_cons_zero,List.set_cons_succ]))
    (refine tkn 3 ?_;(try simp only [Act.put,List.setIfInBounds_toArray,List.set_cons_zero,List.set_cons_succ]))
    (refine tkn 4 ?_;(try simp only [Act.put,List.setIfInBounds_toArray,List.set_cons_zero,List.set_cons_succ]))
    (refine tkn 5 ?_;(try simp only [Act.put,List.setIfInBounds_toArray,List.set_cons_zero,List.set_cons_succ]))
    (refine tkn 6 ?_;(try simp only [Act.put,List.setIfInBounds_toArray,List.set_cons_zero,List.set_cons_succ]))
    (refine tkn 7 ?_;(try simp only [Act.put,List.setIfInBounds_toArray,List.set_cons_zero,List.set_cons_succ]))
    (refine tkn 8 ?_;(try simp only [Act.put,List.setIfInBounds_toArray,List.set_cons_zero,List.set_cons_succ]))
    (refine tkn 9 ?_;(try simp only [Act.put,List.setIfInBounds_toArray,List.set_cons_zero,List.set_cons_succ]))
    (refine tkn 10 ?_;(try simp only [Act.put,List.setIfInBounds_toArray,List.set_cons_zero,List.set_cons_succ]))
    (refine tk 11 ?_;(try simp only [Act.put,List.getElem_toArray,List.getElem_cons_succ,List.getElem_cons_zero,List.setIfInBounds_toArray,List.set_cons_zero,List.set_cons_succ]))
    (refine tk 12 ?_;(try simp only [Act.put,List.getElem_toArray,List.getElem_cons_succ,List.getElem_cons_zero,List.setIfInBounds_toArray,List.set_cons_zero,List.set_cons_succ]))
    refine wpAnyH_done (by kernel_rfl) ?_ _
    have c0:=Ext.keep hX4 x0
    have c1:=Ext.keep hX4 x1
    have c2:=Ext.keep hX4 x2
    have d0:=Ext.keep hX4 y0
    have e0:=Ext.keep hX4 g0
    have e1:=Ext.keep hX4 g1
    have q1:=Nat.lt_of_lt_of_le xz hX4.size
    have q2:=Nat.lt_of_lt_of_le yz hX4.size
    have q3:=Nat.lt_of_lt_of_le hb hX4.size
    clear x0 x1 x2 y0 y1 g0 g1 hrf
    go_wp2_with fail
    refine wp_region_held (S:=fun W=>W.cell? ⟨p0+1,0,none⟩=some (.int .i64 (n:Int))∧W.cell? ⟨p0+1,1,none⟩=some (.slice Al s.ls.length cl)∧W.cell? ⟨p0+1,2,none⟩=some (.slice Ae s.es.length ce)∧W.cell? ⟨p0,0,none⟩=some (.slice (some ⟨b,off,none⟩) t.tr.length ct)∧W.cell? ⟨b,off+k*2,none⟩=some (.int .i64 gx)∧W.cell? ⟨b,off+k*2+1,none⟩=some vl) (by kernel_rfl) ?_
    show wpAnyH _ _ _ _ _ _ _ _ w4.drew
    have hHeld:w4.drew.cell? ⟨p0+1,0,none⟩=some (.int .i64 (n:Int))∧w4.drew.cell? ⟨p0+1,1,none⟩=some (.slice Al s.ls.length cl)∧w4.drew.cell? ⟨p0+1,2,none⟩=some (.slice Ae s.es.length ce)∧w4.drew.cell? ⟨p0,0,none⟩=some (.slice (some ⟨b,off,none⟩) t.tr.length ct)∧w4.drew.cell? ⟨b,off+k*2,none⟩=some (.int .i64 gx)∧w4.drew.cell? ⟨b,off+k*2+1,none⟩=some vl:=⟨c0,c1,c2,d0,e0,e1⟩
    obtain ⟨We,hWe⟩:∃ We,w4.drew=We:=⟨_,rfl⟩
    have hXe:Ext w4 We:=hWe ▸ Below.drew (Ext.refl _)
    rw [hWe] at hHeld ⊢
    clear hWe
    (refine tk 0 ?_;try simp only [qae])
    (refine tk 1 ?_;try simp only [qae])
    (refine tk 2 ?_;try simp only [qae])
    (refine tk 3 ?_;try simp only [qae])
    (refine tk 4 ?_;try simp only [qae])
    (refine tk 5 ?_;try simp only [qae])
    (refine tk 6 ?_;try simp only [qae])
    refine wpAnyH_ready (rs:=[7]) (by kernel_rfl) (by simp) ?_
    refine AllReadyH.cons rfl (fun K hK=>?_) AllReadyH.nil
    go_simp
    refine (hmv _ (hX4.trans' hXe)).mono ?_
    rintro e w5 ⟨A5,c5,rfl,ho5,hx1⟩
    refine hK.out _ _ (Ext.k6 hx1 hHeld) (fun hHeld9=>?_)
    clear hK K
    try simp only [Act.put,List.setIfInBounds_toArray,List.set_cons_zero,List.set_cons_succ]
    (refine tk 8 ?_;try simp only [qae])
    refine wpAnyH_done (by kernel_rfl) ?_ _
    clear hHeld hHeld9
    have hX5:Ext w7 w5:=hX4.trans' (hXe.trans' hx1)
    have HS5:Hid (RSl qad 1 (fun _=>True) w5 (qa2 s n (t.tr.take (k+1))) [.slice A5 n c5]):=by rw [<- HSN.out];exact (RSl.good qad.good).mono (ho5.sl qad.good (by decide)) fun _ _ _=>trivial
    have HR5:Hid (qfq s n t.tr (k+1)=true):=by show _=_;rw [HRO.out,Bool.true_or]
    clear ho5
    go_wp2_with fail
    go_roundw
    case rel=>exact ⟨k+1,A5,c5,true,hk1,by go_num,rfl,rfl,hE.trans' hX5,HR5.out,HS5.out⟩
    case measure=>simp [intOf];omega
  ·obtain rfl:k=t.tr.length:=by omega
   have HS9:Hid (RSl qad 1 (fun _=>True) wr (qa2 s n t.tr) [.slice A n c]):=by have h:=hST.out;rw [List.take_length] at h;exact h
   have HE9:=Hd hE
   obtain ⟨w9,rfl⟩:∃ w9,w9=wr:=⟨_,rfl⟩
   clear hST hEw hE
   go_wp2_with fail
   clear x0 x1 x2 xz y0 y1 yz
   go_loopw [10,11] (fun vp vi wr=>∃ (k:Nat) (pb:Bool),k<=n∧vi = .int .i64 k∧vp = .bool pb∧Ext w9 wr∧Hid (qfj s n (qa2 s n t.tr) t.mu k=pb)) (fun _ vi _=>n-(intOf vi).toNat)
   case atStart=>exact ⟨0,false,Nat.zero_le _,rfl,rfl,Ext.refl _,(rfl:qfj s n (qa2 s n t.tr) t.mu 0=false)⟩
   case round =>
    obtain ⟨k,pb,hk,rfl,rfl,hE2,hpb⟩:=hrel
    have hE1:=HE9.out.trans' hE2
    have hEw:=HE1.out.trans' hE1
    have hb1:=HBt1.out.ext hE1
    have hb2:=HBs1.out.ext hE1
    have y0:=hb1.cell 0 _
    have y1:=hb1.cell 1 _
    have yz:=hb1.lt
    have x0:=hb2.cell 0 _
    have x1:=hb2.cell 1 _
    have x2:=hb2.cell 2 _
    have xz:=hb2.lt
    clear hb1 hb2
    have z1:(0:Int)<=(k:Int):=by omega
    by_cases hkn:k<n
    ·have hkb:k<(qa2 s n t.tr).length:=by have:=HAL0.out;omega
     obtain ⟨bb,ob2,cb2,rfl,hbb,_,_,hrb,hcb2⟩:=((RSl.good qad.good).bel HS9.out hE2).get k hkb
     obtain rfl:cb2=[.bool (qa2 s n t.tr)[k]]:=hrb
     have d0:=hcb2.get 0 _
     simp only [Nat.add_zero,Nat.mul_one] at d0
     have hst:=qwt s n (qa2 s n t.tr) t.mu k
     rw [qd1 hkb,hpb.out] at hst
     have hac:=fun W (hW:Ext wr W)=>HACP.out k hkn W (hEw.trans' hW) t.mu _ (qaa.good.bel HM.out (hEw.trans' hW))
     have z2:(k:Int)<(n:Int):=by omega
     have hk1:k+1<=n:=hkn
     obtain ⟨bk,hbk⟩:∃ bk,(qa2 s n t.tr)[k]=bk:=⟨_,rfl⟩
     rw [hbk] at d0 hst
     obtain ⟨ab,hab⟩:∃ ab,qff s n k t.mu=ab:=⟨_,rfl⟩
     rw [hab] at hst hac
     clear hcb2 hbk hab
     cases pb
     ·cases bk
      ·have HC:Hid (qfj s n (qa2 s n t.tr) t.mu (k+1)=false):=by show _=_;rw [hst];rfl
       clear hst hac
       go_wp2_with fail
       go_roundw
       case rel=>exact ⟨k+1,false,hk1,by go_num,rfl,hE2,HC.out⟩
       case measure=>simp [intOf];omega
      ·have HC:Hid (qfj s n (qa2 s n t.tr) t.mu (k+1)=ab):=by show _=_;rw [hst];simp
       clear hst
       go_wp2_with fail
       refine (hac _ bel).mono ?_
       rintro e w4 ⟨rfl,hx4⟩
       go_wp2_with fail
       go_roundw
       case rel=>exact ⟨k+1,ab,hk1,by go_num,rfl,hE2.trans' hx4,HC.out⟩
       case measure=>simp [intOf];omega
     ·have HC:Hid (qfj s n (qa2 s n t.tr) t.mu (k+1)=true):=by show _=_;rw [hst,Bool.true_or]
      clear hst hac
      go_wp2_with fail
      go_roundw
      case rel=>exact ⟨k+1,true,hk1,by go_num,rfl,hE2,HC.out⟩
      case measure=>simp [intOf];omega
    ·obtain rfl:k=n:=by omega
     have hfin:=HRF.out wr hEw (qa2 s k t.tr) HAL0.out _ ((RSl.good qad.good).bel HS9.out hE2) t.mu _ (qaa.good.bel HM.out hEw)
     have HOB:=hob
     have HPB:=hpb
     go_wp2_with fail
     refine hfin.mono ?_
     rintro e w4 ⟨rfl,hx4⟩
     go_wp2_with fail
     go_ret3
     exact ⟨by rw [HOB.out,HPB.out];rfl,hEw.trans' hx4⟩
end
section
set_option maxHeartbeats 8000000
set_option maxRecDepth 100000
/- The reference's tests,fails,Fails: walked. -/
open Go.Shelf
theorem test_take {l:List Te} {k:Nat} (h:k<l.length):((l.take (k+1)).all qa6)=((l.take k).all qa6 && qa6 l[k]):=by
 rw [List.take_succ_eq_append_getElem h,List.all_append,List.all_cons,List.all_nil,Bool.and_true]
theorem test_no {l:List Te} {k:Nat} (h:k<l.length) (hf:qa6 l[k]=false):(l.all qa6)=false:=by
 rw [List.all_eq_false]
 exact ⟨l[k],List.getElem_mem h,by rw [hf];simp⟩
theorem rtests_c (S:Nat->Prop) (ts:List Te) (v:Value) (w:World) (hx:RSl RTe 2 S w ts [v]):Calls Tryz.prog 126 #[v] w fun e w'=>e = .returned (.int .i64 (qef ts))∧Ext w w':=by
 obtain ⟨A,c,rfl,hc,hc0⟩:=hx.val
 have HX:=Hd hx
 clear hx
 by_cases h4:(4000:Int)<(ts.length:Int)
 ·have HV:Hid (qef ts=1):=by show _=_;rw [qef,if_neg (by omega)]
  go_enter Tryz.func126,Tryz.ntmps126
  go_wp2_with fail
  go_ret
  exact ⟨by rw [HV.out];rfl,bel⟩
 go_enter Tryz.func126,Tryz.ntmps126
 go_wp2_with fail
 go_loopw [3] (fun vi wr=>∃ k:Nat,k<=ts.length∧vi = .int .i64 k∧Ext w wr∧Hid ((ts.take k).all qa6=true)) (fun vi _=>ts.length-(intOf vi).toNat)
 case atStart=>exact ⟨0,Nat.zero_le _,rfl,Ext.refl _,(rfl:([]:List Te).all qa6=true)⟩
 case round =>
  obtain ⟨k,hk,rfl,hE,hal⟩:=hrel
  by_cases hlt:k<ts.length
  ·obtain ⟨b,off,cs,rfl,hb,hS,hl,hr,hcell⟩:=((RSl.good RTe.good).bel HX.out hE).get k hlt
   have hca:=qm3 S ts[k] cs wr hr
   obtain ⟨v1,v2,rfl,hv1,hv2⟩:=id hr
   obtain ⟨A1,c1,rfl,_,_⟩:=hv1.val
   obtain ⟨A2,c2,rfl,_,_⟩:=hv2.val
   have a0:=hcell.get 0 _
   have a1:=hcell.get 1 _
   simp only [Nat.add_zero] at a0
   have HTK:=Hd (test_take hlt)
   have HNO:=test_no hlt
   have hk1:k+1<=ts.length:=hlt
   obtain ⟨n1,hn1⟩:∃ n1,(ts[k]).tr.length=n1:=⟨_,rfl⟩
   obtain ⟨n2,hn2⟩:∃ n2,(ts[k]).mu.length=n2:=⟨_,rfl⟩
   rw [hn1] at a0
   rw [hn2] at a1
   rw [hn1,hn2] at hca
   obtain ⟨tb,htb⟩:∃ tb,qa6 ts[k]=tb:=⟨_,rfl⟩
   rw [htb] at hca HTK HNO
   clear hcell hl hS hr hv1 hv2 hn1 hn2 htb
   cases tb
   ·have HN:Hid (qef ts=340):=by show _=_;rw [qef,if_pos (by omega),HNO rfl];rfl
    clear HTK HNO
    go_wp2_with fail
    refine hca.mono ?_
    rintro e w1 ⟨rfl,h1⟩
    go_wp2_with fail
    go_ret
    exact ⟨by rw [HN.out];rfl,hE.trans' h1⟩
   ·clear HNO
    go_wp2_with fail
    refine hca.mono ?_
    rintro e w1 ⟨rfl,h1⟩
    go_wp2_with fail
    go_roundw
    case rel=>exact ⟨k+1,hk1,by go_num,hE.trans' h1,(by rw [HTK.out,hal.out];rfl:(ts.take (k+1)).all qa6=true)⟩
    case measure=>simp [intOf];omega
  ·obtain rfl:k=ts.length:=by omega
   have HN:Hid (qef ts=0):=by
    show _=_
    have h:=hal.out
    rw [List.take_length] at h
    rw [qef,if_pos (by omega),h]
    rfl
   go_wp2_with fail
   go_ret
   exact ⟨by rw [HN.out];rfl,hE⟩
theorem qrq {α:Type} (p:α->Bool):∀ (l:List α) (k:Nat) (h:k<l.length),(∀ j,(hj:j<k)->p (l[j]'(by omega))=false)->p l[k]=true->qay p l=(k:Int)
 | x :: l,0,_,_,h=>by
  rw [qay,if_pos (by simpa using h)]
  rfl
 | x :: l,k+1,hk,hn,h=>by
  have h0:p x=false:=by simpa using hn 0 (by omega)
  have ih:=qrq p l k (by simpa using hk) (fun j hj=>by simpa using hn (j+1) (by omega)) (by simpa using h)
  rw [qay,if_neg (by rw [h0];decide),ih,if_neg (by omega)]
  omega
theorem qqf {α:Type} (p:α->Bool):∀ (l:List α),(∀ j,(hj:j<l.length)->p l[j]=false)->qay p l = -1
 | [],_=>rfl
 | x :: l,hn=>by
  have h0:p x=false:=hn 0 (by simp)
  have ih:=qqf p l fun j hj=>hn (j+1) (by simpa using hj)
  rw [qay,if_neg (by rw [h0];decide),ih]
  rfl
def qgc (s:Sy) (n:Nat) (t:Te):Bool:=qda s n (qa2 s n t.tr) t.mu n
theorem qpq (S:Nat->Prop) (s:Sy) (hok:qah s) (cs:List Value) (n:Nat) (hn:s.n=(n:Int)) (ts:List Te) (v:Value) (w:World) (hx:RSy S w s cs) (ht:RSl RTe 2 S w ts [v]) (hl:∀ t∈ts,t.tr.length<=1000000) :
  Calls Tryz.prog 127 #[v,.agg cs.toArray] w fun e w'=>e = .returned (.int .i64 (qay (qgc s n) ts))∧Ext w w':=by
 have hve:=fun (k:Nat) (hk:k<ts.length) cs2 W (hW:Ext w W) (hr:RTe S W ts[k] cs2)=>qqz S s hok cs n hn ts[k] cs2 W (RSy.good.bel hx hW) hr (hl _ (List.getElem_mem hk))
 obtain ⟨_,v1,u1,rfl,hv,hu⟩:=id hx
 obtain ⟨Al,cl,rfl,hcl1,hcl0⟩:=hv.val
 obtain ⟨Ae,ce,rfl,hce,hce0⟩:=hu.val
 obtain ⟨A,c,rfl,hc,hc0⟩:=ht.val
 have HT:=Hd ht
 rw [hn] at hve ⊢
 have HVE:=Hd hve
 have HAT:=Hd fun k (h:k<ts.length)=>qrq (qgc s n) ts k h
 have HNO:=Hd (qqf (qgc s n) ts)
 clear hx hv hu hn hok ht hl hve
 obtain ⟨W0,hW0⟩:∃ W0,w.alloc (.cells #[.int .i64 (n:Int),.slice Al s.ls.length cl,.slice Ae s.es.length ce] 25)=W0:=⟨_,rfl⟩
 have hE0:Ext w W0:=by rw [<- hW0];exact (Ext.refl w).alloc _
 have hb0:qag W0 w.heap.size 25 [.int .i64 (n:Int),.slice Al s.ls.length cl,.slice Ae s.es.length ce]:=by rw [<- hW0];exact qag.new w 25 _
 have HB0:=Hd hb0
 have HE0:=Hd hE0
 have HW0:=Hd hW0
 obtain ⟨p0,hp0⟩:∃ p0,w.heap.size=p0:=⟨_,rfl⟩
 rw [hp0] at HB0
 have HP0:=Hd hp0
 clear hb0 hE0 hW0 hp0
 go_enter Tryz.func127,Tryz.ntmps127
 go_upto_region 1 with (fail)
 rw [HW0.out,HP0.out]
 go_wp2_with fail
 go_loopw [5] (fun vi wr=>∃ k:Nat,k<=ts.length∧vi = .int .i64 k∧Ext W0 wr∧Hid (∀ j,(hj:j<k)->(hj':j<ts.length)->qgc s n ts[j]=false)) (fun vi _=>ts.length-(intOf vi).toNat)
 case atStart=>exact ⟨0,Nat.zero_le _,rfl,Ext.refl _,fun j hj=>absurd hj (by omega)⟩
 case round =>
  obtain ⟨k,hk,rfl,hE,hno⟩:=hrel
  have hE':Ext w wr:=HE0.out.trans' hE
  have hbx:=HB0.out.ext hE
  have x0:=hbx.cell 0 _
  have x1:=hbx.cell 1 _
  have x2:=hbx.cell 2 _
  have xz:=hbx.lt
  clear hbx
  have z1:(0:Int)<=(k:Int):=by omega
  by_cases hlt:k<ts.length
  ·obtain ⟨b,off,cs2,rfl,hb,hS,hl2,hr,hcell⟩:=((RSl.good RTe.good).bel HT.out hE').get k hlt
   have hca:=fun W (hW:Ext wr W)=>HVE.out k hlt _ W (hE'.trans' hW) (RTe.good.bel hr hW)
   obtain ⟨v1,v2,rfl,hv1,hv2⟩:=id hr
   obtain ⟨A1,c1,rfl,_,_⟩:=hv1.val
   obtain ⟨A2,c2,rfl,_,_⟩:=hv2.val
   have a0:=hcell.get 0 _
   have a1:=hcell.get 1 _
   simp only [Nat.add_zero] at a0
   have hk1:k+1<=ts.length:=hlt
   have z2:(k:Int)<(ts.length:Int):=by omega
   have hYE:=HAT.out k hlt fun j hj=>hno.out j hj (by omega)
   have hST:qgc s n ts[k]=false->∀ j,(hj:j<k+1)->(hj':j<ts.length)->qgc s n ts[j]=false:=fun h j hj hj'=>by
    rcases Nat.lt_or_ge j k with h' | h'
    ·exact hno.out j h' hj'
    ·obtain rfl:j=k:=by omega
     exact h
   obtain ⟨n1,hn1⟩:∃ n1,(ts[k]).tr.length=n1:=⟨_,rfl⟩
   obtain ⟨n2,hn2⟩:∃ n2,(ts[k]).mu.length=n2:=⟨_,rfl⟩
   rw [hn1] at a0
   rw [hn2] at a1
   rw [hn1,hn2] at hca
   obtain ⟨ob,hob⟩:∃ ob,qfq s n (ts[k]).tr n1=ob:=⟨_,rfl⟩
   rw [hob] at hca
   obtain ⟨pb,hpb⟩:∃ pb,qfj s n (qa2 s n (ts[k]).tr) (ts[k]).mu n=pb:=⟨_,rfl⟩
   rw [hpb] at hca
   obtain ⟨fb,hfb⟩:∃ fb,qgc s n ts[k]=fb:=⟨_,rfl⟩
   rw [show qda s n (qa2 s n (ts[k]).tr) (ts[k]).mu n=fb from hfb] at hca
   rw [hfb] at hYE hST
   obtain ⟨w7,rfl⟩:∃ w7,w7=wr:=⟨_,rfl⟩
   clear hcell hl2 hS hr hv1 hv2 hn1 hn2 hob hpb hfb
   cases fb
   ·have HST:=Hd (hST rfl)
    clear hYE hST
    go_wp2_with fail
    go_region_held3 (fun W=>W.cell? ⟨p0,0,none⟩=some (.int .i64 (n:Int))∧W.cell? ⟨p0,1,none⟩=some (.slice Al s.ls.length cl)∧W.cell? ⟨p0,2,none⟩=some (.slice Ae s.es.length ce)∧W.cell? ⟨b,off+k*2,none⟩=some (.slice A1 n1 c1)∧W.cell? ⟨b,off+k*2+1,none⟩=some (.slice A2 n2 c2))
     (first | (refine ⟨?_,?_,?_,?_,?_⟩ <;> go_simp <;> done) | exact Ext.k5 hx1 (by assumption) | exact Ext.k5 (qaf.ext hx1) (by assumption) | exact Ext.k5 ((Ext.refl _).alloc _) (by assumption))
     (first | (go_at_call 125;refine (hca _ bel).mono ?_;rintro e w5 ⟨rfl,hx1⟩))
    have hX5:Ext w7 w5:=Ext.trans' (Below.drew (Ext.refl _)) hx1
    go_wp2_with fail
    go_roundw
    case rel=>exact ⟨k+1,hk1,by go_num,hE.trans' hX5,HST.out⟩
    case measure=>simp [intOf];omega
   ·have HY:=Hd (hYE rfl)
    clear hYE hST
    go_wp2_with fail
    go_region_held3 (fun W=>W.cell? ⟨p0,0,none⟩=some (.int .i64 (n:Int))∧W.cell? ⟨p0,1,none⟩=some (.slice Al s.ls.length cl)∧W.cell? ⟨p0,2,none⟩=some (.slice Ae s.es.length ce)∧W.cell? ⟨b,off+k*2,none⟩=some (.slice A1 n1 c1)∧W.cell? ⟨b,off+k*2+1,none⟩=some (.slice A2 n2 c2))
     (first | (refine ⟨?_,?_,?_,?_,?_⟩ <;> go_simp <;> done) | exact Ext.k5 hx1 (by assumption) | exact Ext.k5 (qaf.ext hx1) (by assumption) | exact Ext.k5 ((Ext.refl _).alloc _) (by assumption))
     (first | (go_at_call 125;refine (hca _ bel).mono ?_;rintro e w5 ⟨rfl,hx1⟩))
    have hX5:Ext w7 w5:=Ext.trans' (Below.drew (Ext.refl _)) hx1
    go_wp2_with fail
    go_ret
    exact ⟨by rw [HY.out];rfl,hE'.trans' hX5⟩
  ·obtain rfl:k=ts.length:=by omega
   have HV:Hid (qay (qgc s n) ts = -1):=HNO.out fun j hj=>hno.out j hj hj
   go_wp2_with fail
   go_ret
   exact ⟨by rw [HV.out];rfl,hE'⟩
end
section

theorem qlq {t:Te} (h:qa6 t=true):qa8 t.tr=true∧Inc t.mu:=by
 rw [qa6,Bool.and_eq_true,Bool.and_eq_true] at h
 exact ⟨h.1.1,set_inc h.2⟩
theorem qop {s:Sy} (hok:qah s) {n:Nat} (hn:s.n=(n:Int)) {t:Te} (h:qa6 t=true):qgc s n t=qbf s t :=
 qpk hok hn (qlq h).1 (qlq h).2
theorem qwn {s:Sy} (hok:qah s) {n:Nat} (hn:s.n=(n:Int)) {t:Te} (h:qa6 t=true):qfj s n (qa2 s n t.tr) t.mu n=qgq s t:=by
 obtain ⟨ht,hl⟩:=qlq h
 rw [qkh hok hn t.tr (ql4 ht),Bool.eq_iff_iff,qgq,qfj,List.any_eq_true,List.any_eq_true]
 constructor
 ·rintro ⟨k,hk,h⟩
  have hk':=List.mem_range.1 hk
  rw [qd1 (by rw [qb2];exact hk'),qep,Bool.and_eq_true,decide_eq_true_eq,ql2 hok hn hk' hl] at h
  exact ⟨(k:Int),h.1,h.2⟩
 ·rintro ⟨y,hy,h⟩
  have:=qle hok t.tr y hy
  obtain ⟨k,rfl⟩:∃ k:Nat,y=(k:Int):=⟨y.toNat,by omega⟩
  have hk:k<n:=by omega
  refine ⟨k,List.mem_range.2 hk,?_⟩
  rw [qd1 (by rw [qb2];exact hk),qep,Bool.and_eq_true,decide_eq_true_eq,ql2 hok hn hk hl]
  exact ⟨hy,h⟩
theorem qut {tr:List Lb} (h:qa8 tr=true) (k:Nat):qa8 (tr.take k)=true:=by
 rw [qa8,Bool.and_eq_true,decide_eq_true_eq,List.all_eq_true] at h ⊢
 exact ⟨by rw [List.length_take];omega,fun x hx=>h.2 x (List.mem_of_mem_take hx)⟩
theorem qu7 {s:Sy} (hok:qah s) {n:Nat} (hn:s.n=(n:Int)) {t:Te} (h:qa6 t=true):qfq s n t.tr t.tr.length=qf7 s t:=by
 obtain ⟨ht,hl⟩:=qlq h
 rw [Bool.eq_iff_iff,qf7,qfq,List.any_eq_true,List.any_eq_true]
 have key:∀ k∈List.range t.tr.length,(match t.tr[k]? with | some x=>qda s n (qa2 s n (t.tr.take k)) [x] n | none=>false)=qg0 s t.tr k:=fun k hk=>by
  have hk':=List.mem_range.1 hk
  have e:(t.tr.drop k).take 1=[t.tr[k]]:=by rw [List.drop_eq_getElem_cons hk'];rfl
  rw [List.getElem?_eq_getElem hk',qg0,e]
  exact qpk hok hn (qut ht k) (List.pairwise_singleton _ _)
 constructor
 ·rintro ⟨k,hk,h⟩
  exact ⟨k,hk,by rw [<- key k hk];exact h⟩
 ·rintro ⟨k,hk,h⟩
  exact ⟨k,hk,by rw [<- key k hk] at h;exact h⟩
theorem qmh {α:Type} {p q:α->Bool}:∀ {l:List α},(∀ x∈l,p x=q x)->qay p l=qay q l
 | [],_=>rfl
 | x :: l,h=>by
  rw [qay,qay,h x (List.mem_cons_self ..),qmh fun y hy=>h y (List.mem_cons_of_mem _ hy)]
end
section
open Go.Shelf
set_option maxHeartbeats 1000000 in
set_option maxRecDepth 100000 in
theorem rFails_c (S:Nat->Prop) (s:Sy) (cs:List Value) (ts:List Te) (v:Value) (w:World) (hx:RSy S w s cs) (ht:RSl RTe 2 S w ts [v]) :
  Calls Tryz.prog 64 #[v,.agg cs.toArray] w fun e w'=>e = .returned (.tuple #[.int .i64 (max (qdf s ts) 0),.bool (decide (0<=qdf s ts)),.int .i64 (qap s ts)])∧Ext w w':=by
 have hck:=fun W (hW:Ext w W)=>qhh S s cs W (RSy.good.bel hx hW)
 have hte:=fun W (hW:Ext w W)=>rtests_c S ts v W ((RSl.good RTe.good).bel ht hW)
 have hfl:=fun W (hW:Ext w W) (hok:qap s ts=0)=>qpq S s (qdw hok).1 cs s.n.toNat (by have:=(qdw hok).1.1;omega) ts v W (RSy.good.bel hx hW) ((RSl.good RTe.good).bel ht hW) (fun t h=>by
  have:=(qdw hok).2.2 t h
  simp [qa6,qa8] at this
  omega)
 have hfe:qap s ts=0->qay (qgc s s.n.toNat) ts=qay (qbf s) ts:=fun hok=>qmh fun t h=>qop (qdw hok).1 (by have:=(qdw hok).1.1;omega) ((qdw hok).2.2 t h)
 obtain ⟨_,vl,ve,rfl,hvl,hve⟩:=id hx
 obtain ⟨Al,cl,rfl,_,_⟩:=hvl.val
 obtain ⟨Ae,ce,rfl,_,_⟩:=hve.val
 obtain ⟨A,c,rfl,hc,hc0⟩:=ht.val
 clear hx ht hvl hve
 by_cases hok:qah s
 ·rw [qf5 hok] at hck
  by_cases hE:qap s ts=0
  ·have hT:qef ts=0:=by rw [qap,if_pos hok] at hE;exact hE
   rw [hT] at hte
   have hv:qdf s ts=qay (qbf s) ts:=if_pos hE
   have hfl2:=fun W hW=>hfl W hW hE
   rw [hfe hE] at hfl2
   rw [hv,hE]
   obtain ⟨i,hi⟩:∃ i,qay (qbf s) ts=i:=⟨_,rfl⟩
   have hb:=qib (qbf s) ts
   rw [hi] at hfl2 hb ⊢
   clear hfl hv hE hi hfe hT hok
   obtain ⟨m,b,hm,hb0,hmb⟩:∃ (m:Int) (b:Bool),max i 0=m∧decide (0<=i)=b∧((0<=i∧m=i∧b=true)∨(i<0∧m=0∧b=false)):=⟨_,_,rfl,rfl,by by_cases h:0<=i <;> simp [h] <;> omega⟩
   have HV:=Hd (And.intro hm hb0)
   clear hm hb0
   rcases hmb with ⟨h0,rfl,rfl⟩ | ⟨h0,rfl,rfl⟩
   all_goals
    go_enter Tryz.func64,Tryz.ntmps64
    go_wp2_with fail
    refine (hck _ bel).mono ?_
    rintro e w1 ⟨rfl,hx1⟩
    have hX1:Ext w w1:=bel
    have hb1:=qag.ext (qag.new w 25 [.int .i64 s.n,.slice Al s.ls.length cl,.slice Ae s.es.length ce]) hx1
    clear hx1
    go_wp2_with fail
    refine (hte _ hX1).mono ?_
    rintro e w2 ⟨rfl,hx2⟩
    have hX2:Ext w w2:=hX1.trans' hx2
    have hbx:=hb1.ext hx2
    have x0:=hbx.cell 0 _
    have x1:=hbx.cell 1 _
    have x2:=hbx.cell 2 _
    have xz:=hbx.lt
    clear hbx hb1
    go_wp2_with fail
    refine (hfl2 _ hX2).mono ?_
    rintro e w3 ⟨rfl,hx3⟩
    go_wp2_with fail
    go_ret3
    exact ⟨by rw [HV.out.1,HV.out.2];rfl,hX2.trans' hx3⟩
  ·have hv:qdf s ts = -1:=if_neg hE
   have hT:qap s ts=qef ts:=by rw [qap,if_pos hok]
   rw [hv]
   obtain ⟨er,her⟩:∃ er,qap s ts=er:=⟨_,rfl⟩
   rw [<- hT,her] at hte
   rw [her] at hE ⊢
   have hE':(er == 0)=false:=beq_eq_false_iff_ne.2 hE
   clear hfl her hv hfe hT hok
   go_enter Tryz.func64,Tryz.ntmps64
   go_wp2_with fail
   refine (hck _ bel).mono ?_
   rintro e w1 ⟨rfl,hx1⟩
   have hX1:Ext w w1:=bel
   clear hx1
   go_wp2_with fail
   refine (hte _ hX1).mono ?_
   rintro e w2 ⟨rfl,hx2⟩
   have hX2:Ext w w2:=hX1.trans' hx2
   go_wp2_with fail
   go_ret3
   exact ⟨by rfl,hX2⟩
 ·rw [qd9 hok] at hck
  have hE:qap s ts=8:=by rw [qap,if_neg hok]
  have hv:qdf s ts = -1:=if_neg (by rw [hE];decide)
  rw [hv,hE]
  clear hfl hv hE hfe hok hte
  go_enter Tryz.func64,Tryz.ntmps64
  go_wp2_with fail
  refine (hck _ bel).mono ?_
  rintro e w1 ⟨rfl,hx1⟩
  have hX1:Ext w w1:=bel
  clear hx1
  go_wp2_with fail
  go_ret3
  exact ⟨by rfl,hX1⟩
end
section
open Go.Shelf
theorem verdL_of (s:Sy) (t:Te) {p f o:Bool} (hp:qgq s t=p) (hf:qbf s t=f) (ho:qf7 s t=o):qd7 s t=(if p then [1] else [])++(if f then [2] else [])++(if o then [3] else []):=by
 have e1:qe2 s t 1=p:=hp
 have e2:qe2 s t 2=f:=hf
 have e3:qe2 s t 3=o:=ho
 rw [qd7,List.filter_cons,List.filter_cons,List.filter_cons,List.filter_nil,e1,e2,e3]
 cases p <;> cases f <;> cases o <;> rfl
set_option maxHeartbeats 1000000 in
set_option maxRecDepth 100000 in
theorem qwy (S:Nat->Prop) (s:Sy) (cs cst:List Value) (t:Te) (w:World) (hx:RSy S w s cs) (ht:RTe S w t cst) :
  Calls Tryz.prog 63 #[.agg cst.toArray,.agg cs.toArray] w (ql9 (qc8 s t) (qap s [t]) w):=by
 have hck:=fun W (hW:Ext w W)=>qhh S s cs W (RSy.good.bel hx hW)
 have hte:=fun W (hW:Ext w W)=>qm3 S t cst W (RTe.good.bel ht hW)
 have hve:=fun W (hW:Ext w W) (hok:qap s [t]=0)=>qqz S s (qdw hok).1 cs s.n.toNat (by have:=(qdw hok).1.1;omega) t cst W (RSy.good.bel hx hW) (RTe.good.bel ht hW) (by
  have:=(qdw hok).2.2 t (by simp)
  simp [qa6,qa8] at this
  omega)
 obtain ⟨vt,vu,rfl,hvt,hvu⟩:=id ht
 obtain ⟨_,vl,ve,rfl,hvl,hvE⟩:=id hx
 obtain ⟨Al,cl,rfl,_,_⟩:=hvl.val
 obtain ⟨Ae,ce,rfl,_,_⟩:=hvE.val
 obtain ⟨A,c,rfl,hc,hc0⟩:=hvt.val
 obtain ⟨A',c',rfl,hc',hc0'⟩:=hvu.val
 clear hx ht hvl hvE hvt hvu
 by_cases hok:qah s
 case neg =>
  rw [qd9 hok] at hck
  have hE:qap s [t]=8:=by rw [qap,if_neg hok]
  have hv:qc8 s t=[]:=if_neg (by rw [hE];decide)
  rw [hv,hE]
  clear hv hE hok hte hve
  go_enter Tryz.func63,Tryz.ntmps63
  go_wp2_with fail
  refine (hck _ bel).mono ?_
  rintro e w1 ⟨rfl,hx1⟩
  have hX1:Ext w w1:=bel
  clear hx1
  go_wp2_with fail
  go_ret2
  exact ⟨none,0,rfl,qab.nil ..,hX1⟩
 rw [qf5 hok] at hck
 by_cases hT:qa6 t=true
 case neg =>
  have hT':qa6 t=false:=by simpa using hT
  have hE:qap s [t]=340:=by rw [qap,if_pos hok,qef,if_pos (by simp)];simp [hT']
  have hv:qc8 s t=[]:=if_neg (by rw [hE];decide)
  rw [hv,hE]
  rw [hT'] at hte
  clear hv hE hok hve hT hT'
  go_enter Tryz.func63,Tryz.ntmps63
  go_wp2_with fail
  refine (hck _ bel).mono ?_
  rintro e w1 ⟨rfl,hx1⟩
  have hX1:Ext w w1:=bel
  have hb1:=((qag.new w 40 [.slice A t.tr.length c,.slice A' t.mu.length c']).ext ((Ext.refl _).alloc (.cells #[.int .i64 s.n,.slice Al s.ls.length cl,.slice Ae s.es.length ce] 25))).ext hx1
  clear hx1
  have x0:=hb1.cell 0 _
  have x1:=hb1.cell 1 _
  have xz:=hb1.lt
  clear hb1
  go_wp2_with fail
  refine (hte _ bel).mono ?_
  rintro e w2 ⟨rfl,hx2⟩
  have hX2:Ext w w2:=hX1.trans' hx2
  go_wp2_with fail
  go_ret2
  exact ⟨none,0,rfl,qab.nil ..,hX2⟩
 have hE:qap s [t]=0:=by rw [qap,if_pos hok,qef,if_pos (by simp)];simp [hT]
 have hv:qc8 s t=qd7 s t:=if_pos hE
 have hve2:=fun W hW=>hve W hW hE
 have hn:s.n=(s.n.toNat:Int):=by have:=hok.1;omega
 rw [qu7 hok hn hT,qwn hok hn hT,show qda s s.n.toNat (qa2 s s.n.toNat t.tr) t.mu s.n.toNat=qbf s t from qop hok hn hT] at hve2
 obtain ⟨p,hp⟩:∃ p,qgq s t=p:=⟨_,rfl⟩
 obtain ⟨f,hf⟩:∃ f,qbf s t=f:=⟨_,rfl⟩
 obtain ⟨o,ho⟩:∃ o,qf7 s t=o:=⟨_,rfl⟩
 obtain ⟨R,hR⟩:∃ R,qd7 s t=R:=⟨_,rfl⟩
 rw [hv,hE,hR]
 rw [verdL_of s t hp hf ho] at hR
 have HR:=Hd hR
 clear hR
 rw [hp,hf,ho] at hve2
 rw [hT] at hte
 obtain ⟨n1,hn1⟩:∃ n1,t.tr.length=n1:=⟨_,rfl⟩
 obtain ⟨n2,hn2⟩:∃ n2,t.mu.length=n2:=⟨_,rfl⟩
 obtain ⟨n3,hn3⟩:∃ n3,s.ls.length=n3:=⟨_,rfl⟩
 obtain ⟨n4,hn4⟩:∃ n4,s.es.length=n4:=⟨_,rfl⟩
 rw [hn1,hn2] at hve2 hte ⊢
 rw [hn3,hn4] at hve2 hck ⊢
 clear hv hE hok hve hT hp hf ho hn hn1 hn2 hn3 hn4 hc hc0 hc' hc0'
 go_enter Tryz.func63,Tryz.ntmps63
 go_wp2_with fail
 refine (hck _ bel).mono ?_
 rintro e w1 ⟨rfl,hx1⟩
 have hX1:Ext w w1:=bel
 have hb1:=((qag.new w 40 [.slice A n1 c,.slice A' n2 c']).ext ((Ext.refl _).alloc (.cells #[.int .i64 s.n,.slice Al n3 cl,.slice Ae n4 ce] 25))).ext hx1
 have hb2:qag w1 (w.heap.size+1) 25 [.int .i64 s.n,.slice Al n3 cl,.slice Ae n4 ce]:=by
  have h:=qag.ext (qag.new (w.alloc (.cells #[.slice A n1 c,.slice A' n2 c'] 40)) 25 [.int .i64 s.n,.slice Al n3 cl,.slice Ae n4 ce]) hx1
  rwa [World.size_alloc] at h
 have hB1:=Hd hb1
 have hB2:=Hd hb2
 clear hx1 hb2
 have x0:=hb1.cell 0 _
 have x1:=hb1.cell 1 _
 have xz:=hb1.lt
 clear hb1
 go_wp2_with fail
 refine (hte _ bel).mono ?_
 rintro e w2 ⟨rfl,hx2⟩
 have hX2:Ext w w2:=hX1.trans' hx2
 have hb1:=hB1.out.ext hx2
 have hb2:=hB2.out.ext hx2
 clear x0 x1 xz
 have x0:=hb1.cell 0 _
 have x1:=hb1.cell 1 _
 have y0:=hb2.cell 0 _
 have y1:=hb2.cell 1 _
 have y2:=hb2.cell 2 _
 have xz:=hb1.lt
 have yz:=hb2.lt
 clear hb1 hb2 hx2
 go_wp2_with fail
 refine (hve2 _ hX2).mono ?_
 rintro e w3 ⟨rfl,hx3⟩
 have hX3:Ext w w3:=hX2.trans' hx3
 clear hve2 hte hck x0 x1 y0 y1 y2 hB1 hB2 hx3 xz yz
 go_upto_if 25 with (fail)
 go_cut [10] (fun v10 wx=>∃ A c,v10 = .slice A (if p then [1] else []:List Int).length c∧Hid (qab qac 1 3 w.heap.size (fun _=>False) wx (if p then [1] else []:List Int) (.slice A (if p then [1] else []:List Int).length c))∧Ext w wx)
 case first =>
  cases p
  ·go_wp2_with fail
   go_meet
   exact ⟨_,_,rfl,(qab.nil ..),hX3⟩
  ·obtain ⟨g1,c1,v1,hr1,ho2,hb3,_,_⟩:=qct qac.good (by decide) w.heap.size 3 53 (.int .i64 0) 8 Tryz.underlying53 qgg rfl (by decide) (fun _=>False) w3 [] (.slice none 0 0) 1 [.int .i64 1] (qab.nil ..) ⟨rfl,by unfold I64;omega⟩ hX3.size (by simp)
   have HO1:=Hd ho2
   have HX1:Ext w v1:=Bt.new hX3 hb3 fun q _ h=>by cases h
   clear ho2 hb3
   go_wp2_with (at_builtin;refine wpList_append_run rfl _ _ _ rfl _ _ _ rfl rfl hr1 ?_;clear hr1)
   go_meet
   exact ⟨some ⟨g1,0,none⟩,c1,by simp,(by have h:=HO1.out;show qab _ _ _ _ _ _ _ _;simpa using h),HX1⟩
 case rest =>
 rename World=>w4
 obtain ⟨A4,c4,rfl,hO4,hX4⟩:=hcut
 obtain ⟨l4,hl4⟩:∃ l,(if p then [1] else []:List Int)=l:=⟨_,rfl⟩
 have hn4:l4.length<=1:=by rw [<- hl4];cases p <;> decide
 rw [hl4] at hO4 ⊢
 have HL4:=Hd hl4
 clear hl4
 go_upto_if 29 with (fail)
 go_cut [10] (fun v10 wx=>∃ A c,v10 = .slice A (if f then l4++[2] else l4).length c∧Hid (qab qac 1 3 w.heap.size (fun _=>False) wx (if f then l4++[2] else l4) (.slice A (if f then l4++[2] else l4).length c))∧Ext w wx)
 case first =>
  cases f
  ·go_wp2_with fail
   go_meet
   exact ⟨_,_,rfl,hO4.out,hX4⟩
  ·obtain ⟨g1,c1,v1,hr1,ho2,hb3,_,_⟩:=qct qac.good (by decide) w.heap.size 3 53 (.int .i64 0) 8 Tryz.underlying53 qgg rfl (by decide) (fun _=>False) w4 l4 (.slice A4 l4.length c4) 2 [.int .i64 2] hO4.out ⟨rfl,by unfold I64;omega⟩ hX4.size (by omega)
   have HO1:=Hd ho2
   have HX1:Ext w v1:=Bt.new hX4 hb3 fun q _ h=>(hO4.out.own_lt h).1
   clear ho2 hb3
   go_wp2_with (at_builtin;refine wpList_append_run rfl _ _ _ rfl _ _ _ rfl rfl hr1 ?_;clear hr1)
   go_meet
   exact ⟨some ⟨g1,0,none⟩,c1,by simp,(by have h:=HO1.out;show qab _ _ _ _ _ _ _ _;simpa using h),HX1⟩
 case rest =>
 rename World=>w5
 obtain ⟨A5,c5,rfl,hO5,hX5⟩:=hcut
 obtain ⟨l5,hl5⟩:∃ l,(if f then l4++[2] else l4)=l:=⟨_,rfl⟩
 have hn5:l5.length<=2:=by rw [<- hl5];cases f <;> simp <;> omega
 rw [hl5] at hO5 ⊢
 have HL5:=Hd hl5
 clear hl5
 go_upto_if 33 with (fail)
 go_cut [10] (fun v10 wx=>∃ A c,v10 = .slice A (if o then l5++[3] else l5).length c∧Hid (qab qac 1 3 w.heap.size (fun _=>False) wx (if o then l5++[3] else l5) (.slice A (if o then l5++[3] else l5).length c))∧Ext w wx)
 case first =>
  cases o
  ·go_wp2_with fail
   go_meet
   exact ⟨_,_,rfl,hO5.out,hX5⟩
  ·obtain ⟨g1,c1,v1,hr1,ho2,hb3,_,_⟩:=qct qac.good (by decide) w.heap.size 3 53 (.int .i64 0) 8 Tryz.underlying53 qgg rfl (by decide) (fun _=>False) w5 l5 (.slice A5 l5.length c5) 3 [.int .i64 3] hO5.out ⟨rfl,by unfold I64;omega⟩ hX5.size (by omega)
   have HO1:=Hd ho2
   have HX1:Ext w v1:=Bt.new hX5 hb3 fun q _ h=>(hO5.out.own_lt h).1
   clear ho2 hb3
   go_wp2_with (at_builtin;refine wpList_append_run rfl _ _ _ rfl _ _ _ rfl rfl hr1 ?_;clear hr1)
   go_meet
   exact ⟨some ⟨g1,0,none⟩,c1,by simp,(by have h:=HO1.out;show qab _ _ _ _ _ _ _ _;simpa using h),HX1⟩
 case rest =>
 obtain ⟨A6,c6,rfl,hO6,hX6⟩:=hcut
 have hR:(if o then l5++[3] else l5)=R:=by
  rw [<- HR.out,<- HL5.out,<- HL4.out]
  cases p <;> cases f <;> cases o <;> rfl
 rw [hR] at hO6 ⊢
 clear hR HL4 HL5 HR
 go_wp2_with fail
 go_ret2
 exact ⟨A6,c6,rfl,hO6.out,hX6⟩
end
section

theorem qvi {tr:List Lb} {x:Lb} (h:tr.all okV=true) (hx:okV x=true):(tr++[x]).all okV=true:=by simp [List.all_append,h,hx]
structure PlOk (s:Sy) (d:Nat) (p:Pl):Prop where
 st:p.st=qao s p.tr
 ne:p.st≠[]
 ok:p.tr.all okV=true
 len:p.tr.length<=d
theorem qvq {s:Sy} (hok:qah s) {d:Nat} {lev:List Pl} (h:∀ p∈lev,PlOk s d p):∀ p∈qca s lev,PlOk s (d+1) p:=fun p hp=>by
 obtain ⟨q,hq,hp⟩:=List.mem_flatMap.1 hp
 obtain ⟨x,hx,hp⟩:=List.mem_flatMap.1 hp
 unfold qby at hp
 split at hp
 ·rename_i hc
  rw [List.mem_singleton.1 hp]
  have hq':=h q hq
  obtain ⟨j,hj,rfl⟩:=List.mem_iff_getElem.1 hx
  refine ⟨?_,fun e=>?_,qvi hq'.ok ?_,?_⟩
  ·show qa9 s _ q.st=qao s (q.tr++[_])
   rw [qjg,hq'.st]
  ·rw [show qa9 s s.ls[j] q.st=[] from e] at hc
   exact absurd hc.2 (by simp)
  ·rw [okV,(hok.2.2.2.2.1 j hj).1,hc.1]
   rfl
  ·show (q.tr++[_]).length<=_
   rw [List.length_append,List.length_singleton]
   exact Nat.succ_le_succ hq'.len
 ·cases hp
theorem PlOk.mono {s:Sy} {d e:Nat} {p:Pl} (h:PlOk s d p) (hde:d<=e):PlOk s e p:=⟨h.st,h.ne,h.ok,Nat.le_trans h.len hde⟩
theorem qsd {s:Sy} (hok:qah s) (D:Nat):∀ (d k:Nat) (out lev r:List Pl),k+d=D->(∀ p∈out,PlOk s D p)->(∀ p∈lev,PlOk s k p)->qb6 s d out lev=some r->∀ p∈r,PlOk s D p
 | 0,k,out,lev,r,_,ho,_,e=>by
  rw [qb6] at e
  injection e with e
  exact e ▸ ho
 | d+1,k,out,lev,r,hk,ho,hl,e=>by
  rw [qb6] at e
  split at e
  ·cases e
  ·have hn:=qvq hok hl
   refine qsd hok D d (k+1) _ _ r (by omega) (fun p hp=>?_) hn e
   rcases List.mem_append.1 hp with hp | hp
   ·exact ho p hp
   ·exact (hn p hp).mono (by omega)
theorem qwa {s:Sy} (hok:qah s) {d:Nat} {r:List Pl} (e:qfc s d=some r):∀ p∈r,PlOk s d p:=by
 have h0:PlOk s 0 ⟨[],qaq s [0]⟩:=⟨rfl,qt9 s,rfl,Nat.le_refl _⟩
 exact qsd hok d d 0 _ _ r (by omega) (fun p hp=>by rw [List.mem_singleton.1 hp];exact h0.mono (Nat.zero_le _)) (fun p hp=>by rw [List.mem_singleton.1 hp];exact h0) e
theorem qtk (s:Sy):∀ (ps:List Pl) (out r:List Te),out.length<=4000->qbi s ps out=some r->r.length<=4000∧(∀ p∈ps,∃ ms,qbe s p.st=some ms)∧∀ t,t∈r↔t∈out∨∃ p∈ps,∃ ms,qbe s p.st=some ms∧∃ m∈ms,t=⟨p.tr,m⟩
 | [],out,r,ho,e=>by
  rw [qbi] at e
  injection e with e
  subst e
  exact ⟨ho,by simp,by simp⟩
 | p :: ps,out,r,ho,e=>by
  rw [qbi] at e
  cases hm:qbe s p.st with
  | none=>rw [hm] at e;cases e
  | some ms =>
   rw [hm] at e
   simp only at e
   split at e
   ·cases e
   ·rename_i hl
    obtain ⟨h1,h2,h3⟩:=qtk s ps _ r (by omega) e
    refine ⟨h1,fun q hq=>?_,fun t=>?_⟩
    ·rcases List.mem_cons.1 hq with rfl | hq
     ·exact ⟨ms,hm⟩
     ·exact h2 q hq
    ·rw [h3,List.mem_append,or_assoc]
     refine or_congr_right ⟨?_,?_⟩
     ·rintro (h | ⟨q,hq,h⟩)
      ·obtain ⟨m,hmm,rfl⟩:=List.mem_map.1 h
       exact ⟨p,by simp,ms,hm,m,hmm,rfl⟩
      ·exact ⟨q,List.mem_cons_of_mem _ hq,h⟩
     ·rintro ⟨q,hq,ms',hm',m,hmm,rfl⟩
      rcases List.mem_cons.1 hq with rfl | hq
      ·rw [hm] at hm'
       injection hm' with hm'
       subst hm'
       exact .inl (List.mem_map.2 ⟨m,hmm,rfl⟩)
      ·exact .inr ⟨q,hq,ms',hm',m,hmm,rfl⟩
structure GenLaw (s:Sy) (d:Nat) (ts:List Te):Prop where
 len:ts.length<=4000
 test:∀ t∈ts,qa6 t=true
 deep:∀ t∈ts,t.tr.length<=d
 no:∀ t∈ts,qbf s t=false
 cov:∀ t∈ts,∀ l,Inc l->qb5 s (qao s t.tr) l=false->∃ m,⟨t.tr,m⟩∈ts∧∀ x∈m,x∈l
theorem gen_law {s:Sy} (hok:qah s) {d:Nat} (hd:d<=8) {ts:List Te} (e:qbl s d=some ts):GenLaw s d ts:=by
 unfold qbl at e
 cases hp:qfc s d with
 | none=>rw [hp] at e;cases e
 | some pls =>
  rw [hp] at e
  have hpl:=qwa hok hp
  obtain ⟨h1,h2,h3⟩:=qtk s pls [] ts (by simp) e
  have hin:∀ t∈ts,∃ p∈pls,∃ ms,qbe s p.st=some ms∧t.mu∈ms∧t.tr=p.tr:=fun t ht=>by
   rcases (h3 t).1 ht with h | ⟨p,hp,ms,hms,m,hm,rfl⟩
   ·cases h
   ·exact ⟨p,hp,ms,hms,hm,rfl⟩
  refine ⟨h1,fun t ht=>?_,fun t ht=>?_,fun t ht=>?_,fun t ht l hl hr=>?_⟩
  ·obtain ⟨p,hp,ms,hms,hm,e⟩:=hin t ht
   have hL:=qlg hok hms
   have hne:=hL.ne _ hm
   rw [qa6,hL.set _ hm,qa8,e,(hpl p hp).ok]
   have h8:=(hpl p hp).len
   have h0:0<t.mu.length:=List.length_pos_iff.2 hne
   simp only [Bool.and_true,Bool.and_eq_true,decide_eq_true_eq]
   exact ⟨by omega,h0⟩
  ·obtain ⟨p,hp,ms,hms,hm,e⟩:=hin t ht
   rw [e]
   exact (hpl p hp).len
  ·obtain ⟨p,hp,ms,hms,hm,e⟩:=hin t ht
   rw [qbf,e,<- (hpl p hp).st]
   exact (qlg hok hms).no _ hm
  ·obtain ⟨p,hp,ms,hms,hm,e⟩:=hin t ht
   rw [e,<- (hpl p hp).st] at hr
   obtain ⟨m,hm',hsub⟩:=(qlg hok hms).cov l hl (hpl p hp).ne hr
   exact ⟨m,(h3 _).2 (.inr ⟨p,hp,ms,hms,m,hm',by rw [e]⟩),hsub⟩
theorem genE_ok {s:Sy} {d:Int} (h:qcs s d=0):qah s∧0<=d∧d<=8∧qbl s d.toNat=some (qa7 s d):=by
 unfold qcs at h
 split at h
 ·rename_i hok
  split at h
  ·rename_i hd
   refine ⟨hok,hd.1,hd.2,?_⟩
   rw [qa7,if_pos ⟨hok,hd⟩]
   cases hg:qbl s d.toNat with
   | none=>rw [hg] at h;cases h
   | some ts=>rfl
  ·cases h
 ·cases h
end
section
open Go.Shelf
theorem genE_conf {s k:Sy} (hk:qah k) (d:Int):qb9 s k d=qcs s d:=by
 unfold qb9 qcs
 rw [if_pos hk]
set_option maxHeartbeats 2000000 in
set_option maxRecDepth 100000 in
theorem qvr (S:Nat->Prop) (s k:Sy) (cs ck:List Value) (d:Int) (w:World) (hx:RSy S w s cs) (hy:RSy S w k ck) :
  Calls Tryz.prog 65 #[.agg cs.toArray,.agg ck.toArray,.int .i64 d] w (qnz (qbz s k d) (qbx s k d) (qb9 s k d) w):=by
 have hck:=fun W (hW:Ext w W)=>qhh S s cs W (RSy.good.bel hx hW)
 have hck2:=fun W (hW:Ext w W)=>qhh S k ck W (RSy.good.bel hy hW)
 have hge:=fun W (hW:Ext w W)=>qvb S s cs d W (RSy.good.bel hx hW)
 have hfl:=fun (hok:qah k) (ts:List Te) (hts:∀ t∈ts,qa6 t=true) W (hW:Ext w W) v (hv:RSl RTe 2 (fun _=>True) W ts [v])=>qpq (fun _=>True) k hok ck k.n.toNat (by have:=hok.1;omega) ts v W (RSy.good.bel (RSy.good.mono hy fun _ _ _=>trivial) hW) hv (fun t h=>by
  have:=hts t h
  simp [qa6,qa8] at this
  omega)
 obtain ⟨_,vl,ve,rfl,hvl,hve⟩:=id hx
 obtain ⟨Al,cl,rfl,_,_⟩:=hvl.val
 obtain ⟨Ae,ce,rfl,_,_⟩:=hve.val
 obtain ⟨_,vl2,ve2,rfl,hvl2,hve2⟩:=id hy
 obtain ⟨Al2,cl2,rfl,_,_⟩:=hvl2.val
 obtain ⟨Ae2,ce2,rfl,_,_⟩:=hve2.val
 clear hx hvl hve hy hvl2 hve2
 by_cases hok:qah s
 case neg =>
  rw [qd9 hok] at hck
  have hE:qb9 s k d=8:=if_neg hok
  have HV:=Hd (And.intro hE (And.intro (show qbz s k d=false from by rw [qbz,hE];rfl) (show qbx s k d=⟨[],[]⟩ from by rw [qbx,if_neg];rw [hE];simp)))
  clear hE hck2 hge hfl hok
  go_enter Tryz.func65,Tryz.ntmps65
  go_wp2_with fail
  refine (hck _ bel).mono ?_
  rintro e w1 ⟨rfl,h1⟩
  obtain ⟨⟨c0,c1,f0,f1⟩,_,_,hX1,_⟩:=qf9 h1
  clear h1
  go_wp2_with fail
  rw [HV.out.1,HV.out.2.1,HV.out.2.2]
  refine qf2 (a:=6) (p:=7) (b:=8) ?_ ?_ ?_ ?_ (by omega) hX1 c0 c1 (qgt ..) <;> rfl
 rw [qf5 hok] at hck
 by_cases hok2:qah k
 case neg =>
  rw [qd9 hok2] at hck2
  have hE:qb9 s k d=8:=by rw [qb9,if_pos hok,if_neg hok2]
  have HV:=Hd (And.intro hE (And.intro (show qbz s k d=false from by rw [qbz,hE];rfl) (show qbx s k d=⟨[],[]⟩ from by rw [qbx,if_neg];rw [hE];simp)))
  clear hE hge hfl hok hok2
  go_enter Tryz.func65,Tryz.ntmps65
  go_wp2_with fail
  refine (hck _ bel).mono ?_
  rintro e w1 ⟨rfl,h1⟩
  obtain ⟨⟨c0,c1,f0,f1⟩,⟨k0,k1,k2⟩,_,hX1,hz1⟩:=qf9 h1
  clear h1
  go_wp2_with fail
  refine (hck2 _ hX1).mono ?_
  rintro e w2 ⟨rfl,h2⟩
  obtain ⟨c0,c1,f0,f1⟩:=qdv h2 c0 c1 f0 f1
  go_wp2_with fail
  rw [HV.out.1,HV.out.2.1,HV.out.2.2]
  refine qf2 (a:=6) (p:=7) (b:=8) ?_ ?_ ?_ ?_ (by omega) (hX1.trans' h2) c0 c1 (qgt ..) <;> rfl
 rw [qf5 hok2] at hck2
 have hEg:=genE_conf (s:=s) hok2 d
 by_cases hg0:qcs s d=0
 case neg =>
  obtain ⟨er,her⟩:∃ er,qcs s d=er:=⟨_,rfl⟩
  rw [her] at hEg hge hg0
  obtain ⟨ts,hts⟩:∃ ts,qa7 s d=ts:=⟨_,rfl⟩
  rw [hts] at hge
  have hE':(er == 0)=false:=beq_eq_false_iff_ne.2 hg0
  have HV:=Hd (And.intro hEg (And.intro (show qbz s k d=false from by rw [qbz,hEg,decide_eq_false hg0];rfl) (show qbx s k d=⟨[],[]⟩ from by rw [qbx,if_neg];rw [hEg];exact fun h=>hg0 h.1)))
  clear hEg hg0 her hts hfl hok hok2
  go_enter Tryz.func65,Tryz.ntmps65
  go_wp2_with fail
  refine (hck _ bel).mono ?_
  rintro e w1 ⟨rfl,h1⟩
  obtain ⟨⟨c0,c1,f0,f1⟩,⟨k0,k1,k2⟩,⟨l0,l1,l2⟩,hX1,hz1⟩:=qf9 h1
  clear h1 hck
  go_wp2_with fail
  refine (hck2 _ hX1).mono ?_
  rintro e w2 ⟨rfl,h2⟩
  obtain ⟨c0,c1,f0,f1⟩:=qdv h2 c0 c1 f0 f1
  obtain ⟨l0,l1,l2⟩:=qhw h2 l0 l1 l2
  have hz2:=h2.size
  clear k0 k1 k2 hck2
  go_wp2_with fail
  refine (hge _ (hX1.trans' h2)).mono ?_
  rintro e w3 ⟨A3,c3,rfl,ho3,h3⟩
  obtain ⟨c0,c1,f0,f1⟩:=qdv h3 c0 c1 f0 f1
  clear ho3 hge
  go_wp2_with fail
  rw [HV.out.1,HV.out.2.1,HV.out.2.2]
  refine qf2 (a:=6) (p:=7) (b:=8) ?_ ?_ ?_ ?_ (by omega) (hX1.trans' (h2.trans' h3)) c0 c1 (qgt ..) <;> rfl
 obtain ⟨_,hd0,hd8,hgl⟩:=genE_ok hg0
 have hgt:=gen_law hok (by omega:d.toNat<=8) hgl
 have hI:qfo s k d=qay (qbf k) (qa7 s d):=by rw [qfo,hgl];rfl
 have hfc:=qmh fun t h=>qop (n:=k.n.toNat) hok2 (by have:=hok2.1;omega) (hgt.test t h)
 have hB:qbz s k d=decide (qay (qbf k) (qa7 s d)<0):=by rw [qbz,hEg,hg0,hI];rfl
 have hT:qbx s k d=if 0<=qay (qbf k) (qa7 s d) then (qa7 s d).getD (qay (qbf k) (qa7 s d)).toNat ⟨[],[]⟩ else ⟨[],[]⟩:=by rw [qbx,hEg,hg0,hI,hgl];simp [qa5]
 have hflc:=hfl hok2 (qa7 s d) hgt.test
 rw [hfc] at hflc
 rw [hg0] at hge hEg
 have hb:=qib (qbf k) (qa7 s d)
 obtain ⟨ts,hts⟩:∃ ts,qa7 s d=ts:=⟨_,rfl⟩
 rw [hts] at hge hflc hB hT hb
 obtain ⟨i,hi⟩:∃ i,qay (qbf k) ts=i:=⟨_,rfl⟩
 rw [hi] at hflc hB hT hb
 clear hfl hfc hI hgl hgt hts hi hok hok2 hg0 hd0 hd8
 by_cases h0:0<=i
 ·obtain ⟨n,rfl⟩:∃ n:Nat,i=n:=⟨i.toNat,by omega⟩
  have hn:n<ts.length:=by omega
  have HV:=Hd (And.intro hEg (And.intro (show qbz s k d=false from by rw [hB];simp) (show qbx s k d=ts[n] from by rw [hT,if_pos h0];simp [hn])))
  clear hEg hB hT
  go_enter Tryz.func65,Tryz.ntmps65
  go_wp2_with fail
  refine (hck _ bel).mono ?_
  rintro e w1 ⟨rfl,h1⟩
  have hb1:w1.heap[w.heap.size+1+1]? = some (.cells #[.slice none 0 0,.slice none 0 0] 40):=(h1.block _ (by simp)).trans (by
   have:=World.alloc_heap_new ((w.alloc (.cells #[.int .i64 s.n,.slice Al s.ls.length cl,.slice Ae s.es.length ce] 25)).alloc (.cells #[.int .i64 k.n,.slice Al2 k.ls.length cl2,.slice Ae2 k.es.length ce2] 25)) (.cells #[.slice none 0 0,.slice none 0 0] 40)
   rwa [World.size_alloc,World.size_alloc] at this)
  obtain ⟨⟨c0,c1,f0,f1⟩,⟨k0,k1,k2⟩,⟨l0,l1,l2⟩,hX1,hz1⟩:=qf9 h1
  clear h1 hck
  go_wp2_with fail
  refine (hck2 _ hX1).mono ?_
  rintro e w2 ⟨rfl,h2⟩
  obtain ⟨c0,c1,f0,f1⟩:=qdv h2 c0 c1 f0 f1
  obtain ⟨l0,l1,l2⟩:=qhw h2 l0 l1 l2
  obtain ⟨k0,k1,k2⟩:=qhw h2 k0 k1 k2
  have hz2:=h2.size
  have hX2:=hX1.trans' h2
  have hb1:=(h2.block _ (by omega)).trans hb1
  clear hck2 h2
  go_wp2_with fail
  refine (hge _ hX2).mono ?_
  rintro e w3 ⟨A3,c3,rfl,ho3,h3⟩
  obtain ⟨c0,c1,f0,f1⟩:=qdv h3 c0 c1 f0 f1
  obtain ⟨k0,k1,k2⟩:=qhw h3 k0 k1 k2
  have hz3:=h3.size
  have hX3:=hX2.trans' h3
  have hb1:=(h3.block _ (by omega)).trans hb1
  have HO3:=Hd ho3
  clear hge h3 ho3 l0 l1 l2
  obtain ⟨b,off,cs,he,hbl,_,hl,hr,hcell⟩:=HO3.out.get n hn
  obtain rfl:=he
  obtain ⟨v0,v1,rfl,ha0,ha1⟩:=id hr
  obtain ⟨B0,d0,rfl,_,_⟩:=ha0.val
  obtain ⟨B1,d1,rfl,_,_⟩:=ha1.val
  have a0:=hcell.get 0 _
  have a1:=hcell.get 1 _
  simp only [Nat.add_zero] at a0
  have hgn:∀ off n,w3.cell? ⟨w.heap.size+1+1,off,none⟩≠some (.int .i64 n):=by
   intro off n
   rw [cell_of_row w3 _ off _ _ _ hb1]
   rcases off with _ | _ | off <;> simp
  have hr:=(show RTe (fun b=>True∧b≠w.heap.size+1+1) w3 ts[n] _ from ⟨_,_,rfl,qaa.avoid hgn ha0,qaa.avoid hgn ha1⟩)
  have HR:=Hd hr
  clear hcell hl hr hbl ha0 ha1 hgn hb1
  go_wp2_with fail
  refine (hflc _ hX3 _ HO3.out).mono ?_
  rintro e w4 ⟨rfl,h4⟩
  obtain ⟨c0,c1,f0,f1⟩:=qdv h4 c0 c1 f0 f1
  have a0:=Ext.keep h4 a0
  have a1:=Ext.keep h4 a1
  have f0d:w4.drew.frozen? ⟨w.heap.size+1+1,0,none⟩=false:=f0
  have f1d:w4.drew.frozen? ⟨w.heap.size+1+1,1,none⟩=false:=f1
  have c0d:w4.drew.cell? ⟨w.heap.size+1+1,0,none⟩=some (.slice none 0 0):=c0
  have c1d:w4.drew.cell? ⟨w.heap.size+1+1,1,none⟩=some (.slice none 0 0):=c1
  clear k0 k1 k2 hflc
  go_wp2_with fail
  go_region_with (fail)
  all_goals go_wp2_with fail
  all_goals rw [HV.out.1,HV.out.2.1,HV.out.2.2]
  all_goals refine qf2 (a:=6) (p:=7) (b:=8) ?_ ?_ ?_ ?_ (by omega) (Below.drew (hX3.trans' h4)) c0d c1d (RTe.good.bel (RTe.good.mono HR.out fun _ _ h=>h.2) (Below.drew h4))
  all_goals rfl
 ·have HV:=Hd (And.intro hEg (And.intro (show qbz s k d=true from by rw [hB];simp;omega) (show qbx s k d=⟨[],[]⟩ from by rw [hT,if_neg h0])))
  clear hEg hB hT
  go_enter Tryz.func65,Tryz.ntmps65
  go_wp2_with fail
  refine (hck _ bel).mono ?_
  rintro e w1 ⟨rfl,h1⟩
  obtain ⟨⟨c0,c1,f0,f1⟩,⟨k0,k1,k2⟩,⟨l0,l1,l2⟩,hX1,hz1⟩:=qf9 h1
  clear h1 hck
  go_wp2_with fail
  refine (hck2 _ hX1).mono ?_
  rintro e w2 ⟨rfl,h2⟩
  obtain ⟨c0,c1,f0,f1⟩:=qdv h2 c0 c1 f0 f1
  obtain ⟨l0,l1,l2⟩:=qhw h2 l0 l1 l2
  obtain ⟨k0,k1,k2⟩:=qhw h2 k0 k1 k2
  have hz2:=h2.size
  have hX2:=hX1.trans' h2
  clear hck2 h2
  go_wp2_with fail
  refine (hge _ hX2).mono ?_
  rintro e w3 ⟨A3,c3,rfl,ho3,h3⟩
  obtain ⟨c0,c1,f0,f1⟩:=qdv h3 c0 c1 f0 f1
  obtain ⟨k0,k1,k2⟩:=qhw h3 k0 k1 k2
  have hz3:=h3.size
  have hX3:=hX2.trans' h3
  have HO3:=Hd ho3
  clear hge h3 ho3 l0 l1 l2
  go_wp2_with fail
  refine (hflc _ hX3 _ HO3.out).mono ?_
  rintro e w4 ⟨rfl,h4⟩
  obtain ⟨c0,c1,f0,f1⟩:=qdv h4 c0 c1 f0 f1
  clear k0 k1 k2 hflc
  go_wp2_with fail
  rw [HV.out.1,HV.out.2.1,HV.out.2.2]
  refine qf2 (a:=6) (p:=7) (b:=8) ?_ ?_ ?_ ?_ (by omega) (hX3.trans' h4) c0 c1 (qgt ..) <;> rfl
end
end Go.Proofs.YtegenalcheooeaaGreat
