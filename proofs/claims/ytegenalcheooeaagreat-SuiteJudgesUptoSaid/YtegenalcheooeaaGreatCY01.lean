/- Of the proof of a law of the suites: LConcat, LawJudges. -/
import Derived.Test.YtegenalcheooeaaGreatB05
import Derived.Test.YtegenalcheooeaaGreatB15
import Derived.Test.YtegenalcheooeaaGreatB24
import Derived.Test.YtegenalcheooeaaGreatB25
import Derived.Test.YtegenalcheooeaaGreatB26
import Derived.Test.YtegenalcheooeaaGreatRM09
import Derived.Lib.AppendZeros
set_option linter.unusedSectionVars false
set_option linter.unusedSimpArgs false
set_option linter.unusedVariables false
namespace Go.Proofs.YtegenalcheooeaaGreat
open Go.RowKit
attribute [local go_sem] cell?_exto
section
set_option maxHeartbeats 8000000
set_option maxRecDepth 100000
/- slices.Grow and Concat at labels;brief: walked. -/
open Go.Shelf Go.Lib
def GrowPost (T:Nat->Prop) (w:World) (e:Ending) (w':World):Prop:=∃ A c,e = .returned (.slice A 0 c)∧qab RLb 2 61 w.heap.size T w' [] (.slice A 0 c)∧Ext w w'
theorem grow_c (T:Nat->Prop) (n:Nat) (hn:n<=100000000) (w:World):Calls Tryz.prog 116 #[.slice none 0 0,.int .i64 (n:Int)] w (GrowPost T w):=by
 obtain ⟨i3,hi3,hzz⟩:=Option.map_eq_some_iff.1 qh7
 simp only [Prod.mk.injEq] at hzz
 obtain ⟨hz0,hz1,hz2⟩:=hzz
 by_cases h0:n=0
 ·subst h0
  go_enter Tryz.func116,Tryz.ntmps116
  go_wp2_with fail
  go_ret
  exact ⟨none,0,rfl,qab.nil ..,Ext.refl _⟩
 ·have hr:=run_append_nil_zeros (P:=Tryz.prog) w 22 3 22 61 i3 (.agg #[.int .i64 0,.slice none 0 0]) .i64 .i64 Tryz.underlying22 Tryz.underlying3 hi3 hz0 n (by omega) (by rw [hz1];decide) (by omega) (by rw [hz2];omega)
  have hcap:=grownCap_ge w n 0 61
  have hcap2:=grownCap_le_maxLen w n 0 61 (by unfold maxLen;omega)
  generalize grownCap w n 0 61=cap at hr hcap hcap2
  have hx0:(n:Int)-0=n:=by omega
  have hpos:0<n:=by omega
  go_enter Tryz.func116,Tryz.ntmps116
  go_wp2_with (at_builtin;refine Lib.wpList_append_run _ rfl _ _ _ _ rfl _ _ rfl rfl _ _ hr ?_)
  go_ret
  refine ⟨some ⟨w.heap.size,0,none⟩,cap,rfl,⟨[],?_,rfl⟩,((Ext.refl w).alloc _).drew⟩
  exact World.ownsRow.drew (World.ownsRow_made w _ cap (Nat.le_refl _) hcap2 (by simp [Builtin.zeroCells];omega))
theorem qk5 {α:Type} {xs:List (List α)} {k:Nat} (h:k<xs.length):(xs.take (k+1)).flatten=(xs.take k).flatten++xs[k]:=by
 rw [List.take_succ_eq_append_getElem h,List.flatten_append,List.flatten_cons,List.flatten_nil,List.append_nil]
theorem flat_le {α:Type}:∀ (xs:List (List α)) (k:Nat),(xs.take k).flatten.length<=xs.flatten.length
 | [],k=>by simp
 | x :: xs,0=>by simp
 | x :: xs,k+1=>by have:=flat_le xs k;simp only [List.take_succ_cons,List.flatten_cons,List.length_append];omega
theorem lit_x {α:Type} {R:Rdr α} {k:Nat} {S:Nat->Prop} {W:World} {e:TypeId} {xs:List α} {cs:List Value} (hF:Flat R k S (W.alloc (.cells cs.toArray e)) xs cs) (hn:xs.length<=100000) :
  qd4 R k S (W.alloc (.cells cs.toArray e)) xs (.slice (some ⟨W.heap.size,0,none⟩) xs.length xs.length) :=
 ⟨_,_,rfl,Nat.le_refl _,by omega,.inr ⟨W.heap.size,0,rfl,by simp,Flat.row hF fun i x h=>by have:=qea W cs.toArray e i x (by simpa using h);rwa [Addr.add_lit] at this⟩⟩
def qvv (S:Nat->Prop) (l:List Lb) (w:World) (e:Ending) (w':World):Prop:=∃ A c,e = .returned (.slice A l.length c)∧qab RLb 2 61 w.heap.size (fun q=>S q∧q<w.heap.size) w' l (.slice A l.length c)∧Ext w w'
theorem concat_c (S:Nat->Prop) (xs:List (List Lb)) (v:Value) (w:World) (hx:qd4 qaa 1 S w xs v) (hlen:xs.flatten.length<=100000000):Calls Tryz.prog 55 #[v] w (qvv S xs.flatten w):=by
 obtain ⟨A,c,rfl,hc,hc0,_⟩:=id hx
 have HX:=Hd hx
 obtain ⟨fl,hfl⟩:∃ fl,xs.flatten=fl:=⟨_,rfl⟩
 have hle:=flat_le xs
 rw [hfl] at hlen ⊢
 rw [hfl] at hle
 have HLE:=Hd hle
 have HFL:=Hd hfl
 clear hfl hle
 clear hx
 go_enter Tryz.func55,Tryz.ntmps55
 go_wp2_with fail
 go_loopw [3,11] (fun v3 vi wr=>∃ (k q:Nat),k<=xs.length∧vi = .int .i64 k∧v3 = .int .i64 (q:Int)∧q<=fl.length∧Hid (q=(xs.take k).flatten.length)∧wr=w) (fun _ vi _=>xs.length-(intOf vi).toNat)
 case atStart=>exact ⟨0,0,Nat.zero_le _,rfl,rfl,Nat.zero_le _,(show 0=(xs.take 0).flatten.length by simp),rfl⟩
 case round =>
  obtain ⟨k,q,hk,rfl,rfl,hq,hQ,rfl⟩:=hrel
  by_cases hlt:k<xs.length
  ·obtain ⟨b,off,cs,rfl,hb,hl,hr,hcell⟩:=HX.out.get k hlt
   obtain ⟨u,rfl⟩:∃ u,cs=[u]:=by
    match cs,hl with
    | [u],_=>exact ⟨u,rfl⟩
   have a0:=hcell.get 0 _
   simp only [Nat.add_zero,Nat.mul_one] at a0
   obtain ⟨Au,cu,rfl,hcu,hcu0⟩:=hr.val
   have h1:=HLE.out (k+1)
   rw [qk5 hlt,List.length_append,<- hQ.out] at h1
   have HQ2:Hid (q+xs[k].length=(xs.take (k+1)).flatten.length):=by
    show _=_
    rw [qk5 hlt,List.length_append,<- hQ.out]
   obtain ⟨m,hm⟩:∃ m,xs[k].length=m:=⟨_,rfl⟩
   rw [hm] at a0 h1 HQ2
   clear hr hl hcell hQ hm
   go_wp2_with fail
   go_roundw
   case rel=>exact ⟨k+1,q+m,by omega,by go_num,by go_num,h1,HQ2,trivial⟩
   case measure=>simp [intOf];omega
  ·obtain ⟨wo,rfl⟩:∃ wo,wo=wr:=⟨_,rfl⟩
   obtain rfl:q=fl.length:=by
    have:=hQ.out
    rwa [List.take_of_length_le (by omega),HFL.out] at this
   have hg:=grow_c (fun q=>S q∧q<wo.heap.size) fl.length (by omega) wo
   clear hQ hq
   go_wp2_with fail
   refine hg.mono ?_
   rintro e w1 ⟨A1,c1,rfl,hO1,hX1⟩
   have HO1:=Hd hO1
   clear hO1 hg
   go_wp2_with fail
   go_loopw [6,27] (fun v6 vi wq=>∃ (k:Nat) (ys:List Lb) (Ao:Option Addr) (co:Nat),k<=xs.length∧vi = .int .i64 k∧v6 = .slice Ao ys.length co∧Hid (ys=(xs.take k).flatten)∧Ext wo wq∧Hid (qab RLb 2 61 wo.heap.size (fun q=>S q∧q<wo.heap.size) wq ys (.slice Ao ys.length co))) (fun _ vi _=>xs.length-(intOf vi).toNat)
   case atStart=>exact ⟨0,[],A1,c1,Nat.zero_le _,rfl,rfl,(show []=(xs.take 0).flatten by simp),hX1,HO1⟩
   case round =>
    obtain ⟨k,ys,Ao,co,hk,rfl,rfl,hY,hE,hO⟩:=hrel
    by_cases hlt:k<xs.length
    ·obtain ⟨b,off,cs,rfl,hb,hl,hr0,hcell0⟩:=HX.out.get k hlt
     have hr:=qaa.good.bel (qaa.good.mono hr0 fun q hq h=>⟨h,hq⟩:qaa (fun q=>S q∧q<wo.heap.size) wo xs[k] cs) hE
     have hcell:qeu wr b (off+k*1) cs:=hcell0.move (hE.block b hb)
     obtain ⟨u,rfl⟩:∃ u,cs=[u]:=by
      match cs,hl with
      | [u],_=>exact ⟨u,rfl⟩
     have a0:=hcell.get 0 _
     simp only [Nat.add_zero,Nat.mul_one] at a0
     obtain ⟨Au,cu,rfl,hcu,hcu0⟩:=hr.val
     have h1:=HLE.out (k+1)
     rw [qk5 hlt,List.length_append,<- hY.out] at h1
     obtain ⟨A2,c2,w2,hr2,ho2,hb2⟩:=pushN RLb.good (by decide) wo.heap.size 61 22 (.agg #[.int .i64 0,.slice none 0 0]) 32 Tryz.underlying22 qh7 rfl (by decide) (fun q=>S q∧q<wo.heap.size) _ ys xs[k] (.slice Ao ys.length co) _ hO.out
      (qaa.good.mono hr fun b _ h=>⟨h,fun e=>by have:=(hO.out.own_lt e).1;have:=h.2;omega⟩) hE.size (by omega)
     have HO2:=Hd ho2
     have hlo:∀ q,(Value.slice Ao ys.length co).ownBlock=some q->wo.heap.size<=q:=fun q e=>(hO.out.own_lt e).1
     have HB2:Hid (Ext wo w2):=Bt.new hE hb2 fun q _ h=>hlo q h
     have HY2:Hid (ys++xs[k]=(xs.take (k+1)).flatten):=by
      show _=_
      rw [qk5 hlt,hY.out]
     obtain ⟨x,hxe⟩:∃ x,xs[k]=x:=⟨_,rfl⟩
     rw [hxe] at a0 hr2 HO2 HY2
     clear hr hl hcell hr0 hcell0 hO ho2 hb2 hlo hY h1 hxe
     go_wp2_with (at_builtin;refine wpList_append_run rfl _ _ _ rfl _ _ _ rfl rfl hr2 ?_;clear hr2)
     go_roundw
     case rel=>exact ⟨k+1,ys++x,A2,c2,by omega,by go_num,by rw [List.length_append],HY2,HB2.out,HO2⟩
     case measure=>simp [intOf];omega
    ·have hys:ys=fl:=by
      have:=hY.out
      rwa [List.take_of_length_le (by omega),HFL.out] at this
     subst hys
     go_wp2_with fail
     go_ret
     exact ⟨Ao,co,rfl,hO.out,hE⟩
def qgj (t:Te):Bool:=decide (45<t.tr.length) || decide (70<t.mu.length) || !qfk (t.tr++t.mu)
def qij (ts:List Te):Bool:=decide (ts.length<=60) && !(ts.any qgj)
theorem flat2L {S:Nat->Prop} {W:World} {x y:List Lb} {u v:Value} (hx:qaa S W x [u]) (hy:qaa S W y [v]):Flat qaa 1 S W [x,y] [u,v]:=⟨[u],[v],rfl,rfl,hx,[v],[],rfl,rfl,hy,rfl⟩
theorem eg107:∀ args w,(callFunc 107 args).run Tryz.prog w = .ok (.enter 107 args) w:=enters_of Tryz.func107 (by kernel_rfl) rfl
theorem brief1_c (t:Te) (cs:List Value) (w:World) (hx:RTe (fun _=>True) w t cs):Calls Tryz.prog 107 #[.agg cs.toArray] w fun e w'=>e = .returned (.bool (qgj t))∧Ext w w':=by
 obtain ⟨v,u,rfl,hv,hu⟩:=hx
 have hlit:∀ W,Ext w W->qd4 qaa 1 (fun _=>True) (W.alloc (.cells #[v,u] 22)) [t.tr,t.mu] (.slice (some ⟨W.heap.size,0,none⟩) 2 2):=fun W hW=>lit_x (cs:=[v,u]) (e:=22) (flat2L (qaa.good.bel hv (hW.alloc _)) (qaa.good.bel hu (hW.alloc _))) (by simp)
 have hcat:=fun (h1:t.tr.length<=45) (h2:t.mu.length<=70) W (hW:Ext w W)=>concat_c (fun _=>True) [t.tr,t.mu] _ _ (hlit W hW) (by simp;omega)
 obtain ⟨A,c,rfl,_,_⟩:=hv.val
 obtain ⟨A',c',rfl,_,_⟩:=hu.val
 clear hv hu hlit
 by_cases h1:45<t.tr.length
 ·have HV:Hid (qgj t=true):=by simp [qgj,h1,Hid]
  clear hcat
  go_enter Tryz.func107,Tryz.ntmps107
  go_wp2_with fail
  go_ret
  exact ⟨by rw [HV.out];rfl,bel⟩
 by_cases h2:70<t.mu.length
 ·have HV:Hid (qgj t=true):=by simp [qgj,h2,Hid]
  clear hcat
  go_enter Tryz.func107,Tryz.ntmps107
  go_wp2_with fail
  go_ret
  exact ⟨by rw [HV.out];rfl,bel⟩
 have HV:Hid (qgj t = !qfk (t.tr++t.mu)):=by
  show _=_
  rw [qgj,decide_eq_false h1,decide_eq_false h2]
  rfl
 have hcat:=hcat (by omega) (by omega)
 have hlen:(t.tr++t.mu).length<=4000000:=by rw [List.length_append];omega
 have hfl:[t.tr,t.mu].flatten=t.tr++t.mu:=by simp
 rw [hfl] at hcat
 obtain ⟨fl,hfl2⟩:∃ fl,t.tr++t.mu=fl:=⟨_,rfl⟩
 rw [hfl2] at hcat hlen HV
 clear hfl hfl2
 go_enter Tryz.func107,Tryz.ntmps107
 go_wp2_with fail
 have hcat':=hcat (w.alloc (.cells #[.slice A t.tr.length c,.slice A' t.mu.length c'] 40)) ((Ext.refl w).alloc _)
 rw [World.size_alloc] at hcat'
 refine hcat'.mono ?_
 rintro e w1 ⟨A1,c1,rfl,hO,h3⟩
 have hs:=fun W (hW:Ext w1 W)=>qsf _ fl _ W (qaa.good.bel (hO.sl RLb.good (by decide)) hW) hlen
 have hX1:Ext w w1:=bel
 clear hcat hcat' hO
 go_wp2_with fail
 refine (hs _ bel).mono ?_
 rintro e w2 ⟨rfl,h4⟩
 go_wp2_with fail
 go_ret
 refine ⟨?_,bel⟩
 show Ending.returned (.bool (decide (45<(t.tr.length:Int)) || decide (70<(t.mu.length:Int)) || !qfk fl))=_
 rw [HV.out,decide_eq_false (by omega),decide_eq_false (by omega)]
 rfl
theorem brief_c (ts:List Te) (v:Value) (w:World) (hx:RSl RTe 2 (fun _=>True) w ts [v]):Calls Tryz.prog 42 #[v] w fun e w'=>e = .returned (.bool (qij ts))∧Ext w w':=by
 have hcon:=fun W (hW:Ext w W)=>conPTe qgj (fun _=>True) W ts v ((RSl.good RTe.good).bel hx hW) 107 #[] eg107 (fun x _ cs W' _ hr=>brief1_c x cs W' hr)
 obtain ⟨A,c,rfl,_,_⟩:=hx.val
 clear hx
 by_cases h:ts.length<=60
 ·have HV:Hid (qij ts = !(ts.any qgj)):=by simp [qij,h,Hid]
  go_enter Tryz.func42,Tryz.ntmps42
  go_wp2_with fail
  refine (hcon _ bel).mono ?_
  rintro e w1 ⟨rfl,h1⟩
  go_wp2_with fail
  go_ret
  exact ⟨by rw [HV.out];rfl,bel⟩
 ·have HV:Hid (qij ts=false):=by simp [qij,h,Hid]
  go_enter Tryz.func42,Tryz.ntmps42
  go_wp2_with fail
  go_ret
  exact ⟨by rw [HV.out];rfl,bel⟩
end
section
open Go.Shelf
def TrueP (w:World) (e:Ending) (w':World):Prop:=e = .returned (.bool true)∧Ext w w'
theorem qqw {α:Type} {p:α->α->Bool} (h:∀ x,p x x=true):∀ l:List α,leq p l l=true
 | []=>rfl
 | x :: l=>by rw [leq,h x,qqw h l];rfl
theorem same_te (x:Te):qhg x x=true:=by
 have h:∀ l,qfv l l=true:=qqw fun x=>decide_eq_true (qc2.refl x)
 rw [qhg,h,h];rfl
theorem qf3 {W W':World} {B B' B'':Nat} {t t' t'':TypeId} {a b c d e f g h:Value} (hb:qag W B t [a,b]∧qag W B' t' [c,d,e]∧qag W B'' t'' [f,g,h]) (he:Ext W W') :
  (qag W' B t [a,b]∧qag W' B' t' [c,d,e]∧qag W' B'' t'' [f,g,h])∧W'.cell? ⟨B,0,none⟩=some a∧W'.cell? ⟨B,1,none⟩=some b∧W'.cell? ⟨B',0,none⟩=some c∧W'.cell? ⟨B',1,none⟩=some d∧W'.cell? ⟨B',2,none⟩=some e∧W'.cell? ⟨B'',0,none⟩=some f∧W'.cell? ⟨B'',1,none⟩=some g∧W'.cell? ⟨B'',2,none⟩=some h∧B<W'.heap.size∧B'<W'.heap.size∧B''<W'.heap.size :=
 have h0:=hb.1.ext he
 have h1:=hb.2.1.ext he
 have h2:=hb.2.2.ext he
 ⟨⟨h0,h1,h2⟩,h0.cell 0 _,h0.cell 1 _,h1.cell 0 _,h1.cell 1 _,h1.cell 2 _,h2.cell 0 _,h2.cell 1 _,h2.cell 2 _,h0.lt,h1.lt,h2.lt⟩
theorem flat2S {W:World} {x y:Sy} {cs ck:List Value} (hx:RSy (fun _=>True) W x cs) (hy:RSy (fun _=>True) W y ck):Flat RSy 3 (fun _=>True) W [x,y] (cs++ck):=⟨cs,ck,rfl,RSy.good.len hx,hx,ck,[],by simp,RSy.good.len hy,hy,rfl⟩
theorem qp5 {W:World} {base:Nat} {T:Nat->Prop} {xs:List Int} {v:Value} (h:qab qac 1 3 base T W xs v):RSl qac 1 (fun _=>True) W xs [v]:=(RSl.good qac.good).mono (h.sl qac.good (by decide)) fun _ _ _=>trivial
set_option maxHeartbeats 8000000 in
set_option maxRecDepth 100000 in
theorem qwb (w:World) (t:Te) (ct:List Value) (ht:RTe (fun _=>True) w t ct) (l:List Te) (vl:Value) (hl:RSl RTe 2 (fun _=>True) w l [vl]) (s:Sy) (hsm:qfy s) (cs:List Value) (hx:RSy (fun _=>True) w s cs) (k:Sy) (_hkm:qfy k) (ck:List Value) (hy:RSy (fun _=>True) w k ck) (d:Int) :
  Calls Tryz.prog 11 #[.agg ct.toArray,vl,.agg cs.toArray,.agg ck.toArray,.int .i64 d] w (TrueP w):=by
 obtain ⟨_,v,u,rfl,hv,hu⟩:=id hx
 obtain ⟨A,c,rfl,_,_⟩:=hv.val
 obtain ⟨B,b,rfl,_,_⟩:=hu.val
 obtain ⟨_,v2,u2,rfl,hv2,hu2⟩:=id hy
 obtain ⟨A2,c2,rfl,_,_⟩:=hv2.val
 obtain ⟨B2,b2,rfl,_,_⟩:=hu2.val
 obtain ⟨v',u',rfl,hv',hu'⟩:=id ht
 obtain ⟨A',c',rfl,_,_⟩:=hv'.val
 obtain ⟨B',b',rfl,_,_⟩:=hu'.val
 obtain ⟨A3,c3,rfl,hc3,hc30⟩:=hl.val
 have HX:=Hd hx
 have HY:=Hd hy
 have HT:=Hd ht
 have HL:=Hd hl
 clear hx ht hl hy hv hu hv' hu' hv2 hu2
 go_enter Tryz.func11,Tryz.ntmps11
 go_wp2_with fail
 refine (sane_c _).mono ?_
 rintro e1 w1 ⟨rfl,h1⟩
 have HX1:Hid (Ext w w1):=bel
 obtain ⟨hB,c0,c1,d0,d1,d2,g0,g1,g2,z0,z1,z2⟩:=qf3 (B:=w.heap.size) (t:=40) (t':=25) (t'':=25) ⟨((qag.new w 40 [.slice A' t.tr.length c',.slice B' t.mu.length b']).ext ((Ext.refl _).alloc _)).ext ((Ext.refl _).alloc _),(qag.new _ 25 [.int .i64 s.n,.slice A s.ls.length c,.slice B s.es.length b]).ext ((Ext.refl _).alloc _),qag.new _ 25 [.int .i64 k.n,.slice A2 k.ls.length c2,.slice B2 k.es.length b2]⟩ h1
 simp only [World.size_alloc] at hB d0 d1 d2 g0 g1 g2 z1 z2
 have HB1:=Hd hB
 clear h1 hB
 have hbr:=fun W (hW:Ext w1 W)=>brief_c [t] _ _ (qir RTe.good (by decide) (e:=40) (flat1 (RTe.good.bel HT.out (HX1.out.trans' hW)) rfl) (by simp))
 go_wp2_with fail
 refine (hbr _ (Ext.refl _)).mono ?_
 rintro e2 w2 ⟨rfl,h2⟩
 have hE2:Ext w1 w2:=Ext.trans' ((Ext.refl w1).alloc _) h2
 have HX2:Hid (Ext w w2):=HX1.out.trans' hE2
 clear c0 c1 d0 d1 d2 g0 g1 g2 z0 z1 z2
 obtain ⟨hB,c0,c1,d0,d1,d2,g0,g1,g2,z0,z1,z2⟩:=qf3 HB1.out hE2
 have HB2:=Hd hB
 clear hbr h2 hE2 hB HX1 HB1
 obtain ⟨bb,hbb⟩:∃ bb,qij [t]=bb:=⟨_,rfl⟩
 rw [hbb]
 clear hbb
 cases bb
 ·go_wp2_with fail
  go_ret
  exact ⟨rfl,HX2.out⟩
 have hbr:=brief_c l _ w2 ((RSl.good RTe.good).bel HL.out HX2.out)
 go_wp2_with fail
 refine hbr.mono ?_
 rintro e3 w3 ⟨rfl,hE3⟩
 have HX3:Hid (Ext w w3):=HX2.out.trans' hE3
 clear c0 c1 d0 d1 d2 g0 g1 g2 z0 z1 z2
 obtain ⟨hB,c0,c1,d0,d1,d2,g0,g1,g2,z0,z1,z2⟩:=qf3 HB2.out hE3
 have HB3:=Hd hB
 clear hbr hE3 hB HX2 HB2
 obtain ⟨bb,hbb⟩:∃ bb,qij l=bb:=⟨_,rfl⟩
 rw [hbb]
 clear hbb
 cases bb
 ·go_wp2_with fail
  go_ret
  exact ⟨rfl,HX3.out⟩
 have hsml:=fun W (hW:Ext w3 W)=>small_c (fun _=>True) 10 [s,k] _ _ (qir RSy.good (by decide) (e:=25) (flat2S (RSy.good.bel HX.out (HX3.out.trans' hW)) (RSy.good.bel HY.out (HX3.out.trans' hW))) (by simp))
 go_wp2_with fail
 refine (hsml _ (Ext.refl _)).mono ?_
 rintro e4 w4 ⟨bb,rfl,h4⟩
 have hE4:Ext w3 w4:=Ext.trans' ((Ext.refl w3).alloc _) h4
 have HX4:Hid (Ext w w4):=HX3.out.trans' hE4
 clear c0 c1 d0 d1 d2 g0 g1 g2 z0 z1 z2
 obtain ⟨hB,c0,c1,d0,d1,d2,g0,g1,g2,z0,z1,z2⟩:=qf3 HB3.out hE4
 have HB4:=Hd hB
 clear hsml h4 hE4 hB HX3 HB3
 cases bb
 ·go_wp2_with fail
  go_ret
  exact ⟨rfl,HX4.out⟩
 have hlc:=light_c (fun _=>True) s _ d w4 (RSy.good.bel HX.out HX4.out)
 go_wp2_with fail
 refine hlc.mono ?_
 rintro e5 w5 ⟨bb,rfl,hE5⟩
 have HX5:Hid (Ext w w5):=HX4.out.trans' hE5
 clear c0 c1 d0 d1 d2 g0 g1 g2 z0 z1 z2
 obtain ⟨hB,c0,c1,d0,d1,d2,g0,g1,g2,z0,z1,z2⟩:=qf3 HB4.out hE5
 have HB5:=Hd hB
 clear hlc hE5 hB HX4 HB4
 cases bb
 ·go_wp2_with fail
  go_ret
  exact ⟨rfl,HX5.out⟩
 obtain ⟨vE,hvE⟩:∃ x,qap s [t]=x:=⟨_,rfl⟩
 obtain ⟨vR,hvR⟩:∃ x,qc8 s t=x:=⟨_,rfl⟩
 obtain ⟨fE,hfE⟩:∃ x,qap s l=x:=⟨_,rfl⟩
 obtain ⟨mi,hmi⟩:∃ x,max (qdf s l) 0=x:=⟨_,rfl⟩
 obtain ⟨bf,hbf⟩:∃ x,decide (0<=qdf s l)=x:=⟨_,rfl⟩
 obtain ⟨cE,hcE⟩:∃ x,qb9 s k d=x:=⟨_,rfl⟩
 obtain ⟨cb,hcb⟩:∃ x,qbz s k d=x:=⟨_,rfl⟩
 obtain ⟨cT,hcT⟩:∃ x,qbx s k d=x:=⟨_,rfl⟩
 have hve:=qtg (fun _=>True) s _ _ t w5 (RSy.good.bel HX.out HX5.out) (RTe.good.bel HT.out HX5.out)
 have hve2:=fun W (hW:Ext w5 W)=>qwy (fun _=>True) s _ _ t W (RSy.good.bel HX.out (HX5.out.trans' hW)) (RTe.good.bel HT.out (HX5.out.trans' hW))
 have hfl:=fun W (hW:Ext w5 W)=>Fails_c (fun _=>True) s _ l _ W (RSy.good.bel HX.out (HX5.out.trans' hW)) ((RSl.good RTe.good).bel HL.out (HX5.out.trans' hW))
 have hfl2:=fun W (hW:Ext w5 W)=>rFails_c (fun _=>True) s _ l _ W (RSy.good.bel HX.out (HX5.out.trans' hW)) ((RSl.good RTe.good).bel HL.out (HX5.out.trans' hW))
 have hcf:=fun W (hW:Ext w5 W)=>qnq (fun _=>True) s k hsm _ _ d W (RSy.good.bel HX.out (HX5.out.trans' hW)) (RSy.good.bel HY.out (HX5.out.trans' hW))
 have hcf2:=fun W (hW:Ext w5 W)=>qvr (fun _=>True) s k _ _ d W (RSy.good.bel HX.out (HX5.out.trans' hW)) (RSy.good.bel HY.out (HX5.out.trans' hW))
 rw [hvE,hvR] at hve hve2
 rw [hfE,hmi,hbf] at hfl hfl2
 rw [hcE,hcb,hcT] at hcf hcf2
 have HVE2:=Hd hve2
 have HFL:=Hd hfl
 have HFL2:=Hd hfl2
 have HCF:=Hd hcf
 have HCF2:=Hd hcf2
 clear hvE hvR hfE hmi hbf hcE hcb hcT hve2 hfl hfl2 hcf hcf2
 have HY5:Hid (Ext w5 w5):=Ext.refl w5
 go_wp2_with fail
 refine hve.mono ?_
 rintro e6 w6 ⟨A6,c6,rfl,hO6,hE6⟩
 have HR6:=Hd (qp5 hO6)
 have HY6:Hid (Ext w5 w6):=HY5.out.trans' hE6
 have HX6:Hid (Ext w w6):=HX5.out.trans' hE6
 clear c0 c1 d0 d1 d2 g0 g1 g2 z0 z1 z2
 obtain ⟨hB,c0,c1,d0,d1,d2,g0,g1,g2,z0,z1,z2⟩:=qf3 HB5.out hE6
 have HB6:=Hd hB
 clear hve hO6 HY5 hE6 hB HX5 HB5
 have hve:=HVE2.out _ HY6.out
 go_wp2_with fail
 refine hve.mono ?_
 rintro e7 w7 ⟨A7,c7,rfl,hO7,hE7⟩
 have HR7:=Hd (qp5 hO7)
 have HR6':=Hd ((RSl.good qac.good).bel HR6.out hE7)
 have HY7:Hid (Ext w5 w7):=HY6.out.trans' hE7
 have HX7:Hid (Ext w w7):=HX6.out.trans' hE7
 clear c0 c1 d0 d1 d2 g0 g1 g2 z0 z1 z2
 obtain ⟨hB,c0,c1,d0,d1,d2,g0,g1,g2,z0,z1,z2⟩:=qf3 HB6.out hE7
 have HB7:=Hd hB
 clear hve hO7 HR6 HY6 hE7 hB HX6 HB6
 have hfl:=HFL.out _ HY7.out
 go_wp2_with fail
 refine hfl.mono ?_
 rintro e8 w8 ⟨rfl,hE8⟩
 have HQ6:=Hd ((RSl.good qac.good).bel HR6'.out hE8)
 have HQ7:=Hd ((RSl.good qac.good).bel HR7.out hE8)
 have HY8:Hid (Ext w5 w8):=HY7.out.trans' hE8
 have HX8:Hid (Ext w w8):=HX7.out.trans' hE8
 clear c0 c1 d0 d1 d2 g0 g1 g2 z0 z1 z2
 obtain ⟨hB,c0,c1,d0,d1,d2,g0,g1,g2,z0,z1,z2⟩:=qf3 HB7.out hE8
 have HB8:=Hd hB
 clear hfl HR6' HR7 HY7 hE8 hB HX7 HB7
 have hfl:=HFL2.out _ HY8.out
 go_wp2_with fail
 refine hfl.mono ?_
 rintro e9 w9 ⟨rfl,hE9⟩
 have HR6:=Hd ((RSl.good qac.good).bel HQ6.out hE9)
 have HR7:=Hd ((RSl.good qac.good).bel HQ7.out hE9)
 have HY9:Hid (Ext w5 w9):=HY8.out.trans' hE9
 have HX9:Hid (Ext w w9):=HX8.out.trans' hE9
 clear c0 c1 d0 d1 d2 g0 g1 g2 z0 z1 z2
 obtain ⟨hB,c0,c1,d0,d1,d2,g0,g1,g2,z0,z1,z2⟩:=qf3 HB8.out hE9
 have HB9:=Hd hB
 clear hfl HQ6 HQ7 HY8 hE9 hB HX8 HB8
 have hcf:=HCF.out _ HY9.out
 go_wp2_with fail
 refine hcf.mono ?_
 rintro e10 w10 ⟨tv,tu,rfl,hte,h10⟩
 have HTE:=Hd hte
 clear c0 c1 d0 d1 d2 g0 g1 g2 z0 z1 z2
 obtain ⟨_,c0,c1,d0,d1,d2,g0,g1,g2,z0,z1,z2⟩:=qf3 HB9.out h10
 obtain ⟨tv',tu',et,ht1,ht2⟩:=id hte
 simp only [List.cons.injEq,and_true] at et
 obtain ⟨rfl,rfl⟩:=et
 obtain ⟨At,nt,rfl,_,_⟩:=ht1.val
 obtain ⟨Au,nu,rfl,_,_⟩:=ht2.val
 clear ht1 ht2 hte
 obtain ⟨W10,hW10⟩:∃ W,w10.alloc (.cells #[.slice At cT.tr.length nt,.slice Au cT.mu.length nu] 40)=W:=⟨_,rfl⟩
 have hF10:Ext w10 W10:=by rw [<- hW10];exact (Ext.refl w10).alloc _
 have HTB10:Hid (qag W10 w10.heap.size 40 [.slice At cT.tr.length nt,.slice Au cT.mu.length nu]):=by
  show qag _ _ _ _
  rw [<- hW10]
  exact qag.new w10 40 _
 have HTE10:=Hd (RTe.good.bel HTE.out hF10)
 have hG10:Ext w9 W10:=h10.trans' hF10
 have HX10:Hid (Ext w W10):=HX9.out.trans' hG10
 have HY10:Hid (Ext w5 W10):=HY9.out.trans' hG10
 have HQ6:=Hd ((RSl.good qac.good).bel HR6.out hG10)
 have HQ7:=Hd ((RSl.good qac.good).bel HR7.out hG10)
 have HB10:=Hd (qf3 HB9.out hG10).1
 have hcf2:=HCF2.out _ HY10.out
 have HW10:=Hd hW10
 clear hW10 h10 hF10 hG10 HX9 HY9 HB9 HR6 HR7 HTE hcf HCF HCF2
 go_wp2_with fail
 rw [HW10.out]
 obtain ⟨p10,hp10⟩:∃ p,w10.heap.size=p:=⟨_,rfl⟩
 rw [hp10] at HTB10
 rw [hp10]
 clear hp10 HW10
 clear c0 c1 d0 d1 d2 g0 g1 g2 z0 z1 z2
 refine hcf2.mono ?_
 rintro e11 w11 ⟨tv,tu,rfl,hte,h11⟩
 have HTE:=Hd hte
 obtain ⟨tv',tu',et,ht1,ht2⟩:=id hte
 simp only [List.cons.injEq,and_true] at et
 obtain ⟨rfl,rfl⟩:=et
 obtain ⟨Av,nv,rfl,_,_⟩:=ht1.val
 obtain ⟨Aw,nw,rfl,_,_⟩:=ht2.val
 clear ht1 ht2 hte
 obtain ⟨W11,hW11⟩:∃ W,w11.alloc (.cells #[.slice Av cT.tr.length nv,.slice Aw cT.mu.length nw] 40)=W:=⟨_,rfl⟩
 have hF11:Ext w11 W11:=by rw [<- hW11];exact (Ext.refl w11).alloc _
 have HTB11:Hid (qag W11 w11.heap.size 40 [.slice Av cT.tr.length nv,.slice Aw cT.mu.length nw]):=by
  show qag _ _ _ _
  rw [<- hW11]
  exact qag.new w11 40 _
 have HTE11:=Hd (RTe.good.bel HTE.out hF11)
 have hG11:Ext W10 W11:=h11.trans' hF11
 have HX11:Hid (Ext w W11):=HX10.out.trans' hG11
 have HR6:=Hd ((RSl.good qac.good).bel HQ6.out hG11)
 have HR7:=Hd ((RSl.good qac.good).bel HQ7.out hG11)
 have HTB:=Hd (HTB10.out.ext hG11)
 have HTE10':=Hd (RTe.good.bel HTE10.out hG11)
 have hk1:=qil (fun _=>True) vR vR _ _ W11 HR6.out HR7.out
 rw [decide_eq_true rfl] at hk1
 have hk2:=fun W (hW:Ext W11 W)=>qom (fun _=>True) cT cT _ _ W (RTe.good.bel HTE10'.out hW) (RTe.good.bel HTE11.out hW)
 rw [same_te] at hk2
 have HK2:=Hd hk2
 have HW11:=Hd hW11
 clear hW11 h11 hF11 hG11 HX10 HY10 HB10 HQ6 HQ7 HTE hcf2 HTB10 HTE10 HTE10' HTE11 hk2 HR6 HR7
 go_wp2_with fail
 rw [HW11.out]
 obtain ⟨p11,hp11⟩:∃ p,w11.heap.size=p:=⟨_,rfl⟩
 rw [hp11] at HTB11
 rw [hp11]
 clear hp11 HW11
 refine hk1.mono ?_
 rintro e12 w12 ⟨rfl,hE12⟩
 have hb10:=HTB.out.ext hE12
 have hb11:=HTB11.out.ext hE12
 have x0:=hb10.cell 0 _
 have x1:=hb10.cell 1 _
 have xz:=hb10.lt
 have y0:=hb11.cell 0 _
 have y1:=hb11.cell 1 _
 have yz:=hb11.lt
 have hk2:=HK2.out _ hE12
 clear hb10 hb11 HK2 HTB HTB11
 go_wp2_with fail
 refine hk2.mono ?_
 rintro e13 w13 ⟨rfl,hE13⟩
 go_wp2_with fail
 go_ret
 exact ⟨by simp,(HX11.out.trans' hE12).trans' hE13.ext⟩
end
end Go.Proofs.YtegenalcheooeaaGreat
