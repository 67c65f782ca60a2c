/- Of the proof of a law of the suites: LMut1, LConcat. -/
import Derived.Test.YtegenalcheooeaaGreatAF01
import Derived.Test.YtegenalcheooeaaGreatAF05
import Derived.Test.YtegenalcheooeaaGreatB15
import Derived.Test.YtegenalcheooeaaGreatB21
import Derived.Test.YtegenalcheooeaaGreatB23
import Derived.Test.YtegenalcheooeaaGreatB24
import Derived.Test.YtegenalcheooeaaGreatB25
import Derived.Deep.CutBlock
import Derived.Lib.AppendZeros
set_option linter.unusedSectionVars false
set_option linter.unusedSimpArgs false
set_option linter.unusedVariables false
namespace Go.Proofs.YtegenalcheooeaaGreat
open Go.RowKit
attribute [local go_sem] cell?_exto
section
open Go.Shelf
def qit (s:Sy) (e:Ed):Ar:=⟨e.f,qa4 s.ls e.l,e.t⟩
def qdx (s:Sy) (m:Mu) (i:Nat) (e:Ed):List Ar:=if (i:Int)=m.e then (if m.k=1 then [] else if m.k=2 then [⟨e.f,qa4 s.ls e.l,m.t⟩] else [⟨e.f,qa4 s.ls m.l,e.t⟩]) else [qit s e]
def qbz (s:Sy) (i:Nat):Ed:=s.es.getD i ⟨0,0,0⟩
def muP (s:Sy) (m:Mu) (k:Nat):List Ar:=(List.range k).flatMap fun i=>qdx s m i (qbz s i)
theorem qkq (s:Sy) (m:Mu) (k:Nat):muP s m (k+1)=muP s m k++qdx s m k (qbz s k):=by simp [muP,List.range_succ]
theorem muArc_len (s:Sy) (m:Mu) (i:Nat) (e:Ed):(qdx s m i e).length<=1:=by
 unfold qdx
 split
 ·split
  ·simp
  ·split <;> simp
 ·simp
theorem qkh (s:Sy) (m:Mu):∀ k,(muP s m k).length<=k
 | 0=>by simp [muP]
 | k+1=>by
  have:=qkh s m k
  have:=muArc_len s m k (qbz s k)
  rw [qkq,List.length_append]
  omega
abbrev qd7 (s:Sy) (m:Mu):List Ar:=muP s m s.es.length
def qcv (s:Sy) (m:Mu):Prop:=(0<=m.e∧m.e<s.es.length)∧((m.k=1∧m.t=0∧m.l=0)∨(m.k=2∧(0<=m.t∧m.t<s.n)∧m.l=0)∨(m.k=3∧m.t=0∧(0<=m.l∧m.l<s.ls.length)))
def qci (s:Sy) (m:Mu):Sy:=qdn s.n (qd7 s m)
theorem qen {s:Sy} {i:Nat} (h:i<s.es.length):qbz s i=s.es[i]:=by simp [qbz,List.getD_eq_getElem?_getD,List.getElem?_eq_getElem h]
theorem qlp {s:Sy} (h:qag s) (i:Nat) (hi:i<s.es.length):0<=(qbz s i).f∧(qbz s i).f<s.n∧0<=(qbz s i).t∧(qbz s i).t<s.n∧0<=(qbz s i).l∧(qbz s i).l<s.ls.length:=by
 rw [qen hi]
 have:=(h.2.2.2.2.2 i hi).1
 simp [qbw,isB] at this
 omega
theorem qiu {s:Sy} {m:Mu} (hok:qag s) (hm:qcv s m) {a:Ar}:∀ {k},k<=s.es.length->a∈muP s m k->(0<=a.f∧a.f<s.n)∧(0<=a.t∧a.t<s.n)∧a.l∈s.ls
 | 0,_,h=>by simp [muP] at h
 | k+1,hk,h=>by
  rw [qkq,List.mem_append] at h
  rcases h with h | h
  ·exact qiu hok hm (by omega) h
  ·have he:=qlp hok k (by omega)
   have lab:∀ x:Int,0<=x->x<s.ls.length->qa4 s.ls x∈s.ls:=fun x h0 h1=>by
    obtain ⟨n,rfl⟩:∃ n:Nat,x=n:=⟨x.toNat,by omega⟩
    rw [qea s.ls n (by omega)]
    exact List.getElem_mem _
   unfold qdx at h
   split at h
   ·split at h
    ·simp at h
    ·rename_i h1
     split at h
     ·rename_i h2
      rw [List.mem_singleton] at h
      subst h
      rcases hm.2 with ⟨e,_⟩ | ⟨_,ht,_⟩ | ⟨e,_⟩
      ·omega
      ·exact ⟨⟨he.1,he.2.1⟩,ht,lab _ (by omega) (by omega)⟩
      ·omega
     ·rename_i h2
      rw [List.mem_singleton] at h
      subst h
      rcases hm.2 with ⟨e,_⟩ | ⟨e,_⟩ | ⟨_,_,hl⟩
      ·omega
      ·omega
      ·exact ⟨⟨he.1,he.2.1⟩,⟨he.2.2.1,he.2.2.2.1⟩,lab _ hl.1 hl.2⟩
   ·rw [List.mem_singleton] at h
    subst h
    exact ⟨⟨he.1,he.2.1⟩,⟨he.2.2.1,he.2.2.2.1⟩,lab _ (by omega) (by omega)⟩
theorem qsr {s:Sy} {m:Mu} (hok:qag s) (hm:qcv s m):(qao (qd7 s m) [] []).1.length<=s.ls.length∧(qao (qd7 s m) [] []).1.Nodup:=by
 have hn:=qmd (qd7 s m) [] [] (by simp)
 refine ⟨len_le _ _ hn fun x hx=>?_,hn⟩
 rcases (qm9 _ _ _ x).1 hx with h | ⟨a,ha,rfl⟩
 ·cases h
 ·exact (qiu hok hm (Nat.le_refl _) ha).2.2
theorem qro {s:Sy} (hok:qag s) {x:Lb} (hx:x∈s.ls):qax x=true:=by
 obtain ⟨i,hi,rfl⟩:=List.getElem_of_mem hx
 exact (hok.2.2.2.2.1 i hi).1
theorem buildMu_c (S:Nat->Prop) (s:Sy) (hok:qag s) (hsm:qer s) (h16:s.ls.length<=16) (m:Mu) (hm:qcv s m) (v:Value) (w:World) (hx:RSl RAr 4 S w (qd7 s m) [v]) :
  Calls Tryz.prog 135 #[.int .i64 s.n,v] w (qpu s.n (qd7 s m) w):=by
 have hl:=qsr hok hm
 have hlen:(qd7 s m).length<=s.es.length:=qkh s m s.es.length
 have h1:=hok.2.2.2.1
 have h2:=qjz (qd7 s m) [] []
 refine build_c S s.n ⟨hok.1,hok.2.1⟩ (qd7 s m) v w hx (fun a ha=>?_) (fun a ha=>?_) (by omega) (by omega) (sortOK16 (by omega) hl.2) (compOK ?_)
 ·have:=qiu hok hm (Nat.le_refl _) ha
  exact ⟨this.1,this.2.1⟩
 ·have:=qiu hok hm (Nat.le_refl _) ha
  exact ⟨qro hok this.2.2,hsm _ this.2.2⟩
 ·rw [qki,qhn]
  simp only [List.length_nil] at h2
  omega
end
section
set_option maxHeartbeats 8000000
set_option maxRecDepth 100000
/- slices.Grow and Concat at labels;brief: walked. -/
open Go.Shelf Go.Lib
def GrowPost (T:Nat->Prop) (w:World) (e:Ending) (w':World):Prop:=∃ A c,e = .returned (.slice A 0 c)∧qab RLb 2 61 w.heap.size T w' [] (.slice A 0 c)∧Ext w w'
theorem grow_c (T:Nat->Prop) (n:Nat) (hn:n<=100000000) (w:World):Calls Tryz.prog 116 #[.slice none 0 0,.int .i64 (n:Int)] w (GrowPost T w):=by
 obtain ⟨i3,hi3,hzz⟩:=Option.map_eq_some_iff.1 qhm
 simp only [Prod.mk.injEq] at hzz
 obtain ⟨hz0,hz1,hz2⟩:=hzz
 by_cases h0:n=0
 ·subst h0
  go_enter Tryz.func116,Tryz.ntmps116
  go_wp2_with fail
  go_ret
  exact ⟨none,0,rfl,qab.nil ..,Ext.refl _⟩
 ·have hr:=run_append_nil_zeros (P:=Tryz.prog) w 22 3 22 61 i3 (.agg #[.int .i64 0,.slice none 0 0]) .i64 .i64 Tryz.underlying22 Tryz.underlying3 hi3 hz0 n (by omega) (by rw [hz1];decide) (by omega) (by rw [hz2];omega)
  have hcap:=grownCap_ge w n 0 61
  have hcap2:=grownCap_le_maxLen w n 0 61 (by unfold maxLen;omega)
  generalize grownCap w n 0 61=cap at hr hcap hcap2
  have hx0:(n:Int)-0=n:=by omega
  have hpos:0<n:=by omega
  go_enter Tryz.func116,Tryz.ntmps116
  go_wp2_with (at_builtin;refine Lib.wpList_append_run _ rfl _ _ _ _ rfl _ _ rfl rfl _ _ hr ?_)
  go_ret
  refine ⟨some ⟨w.heap.size,0,none⟩,cap,rfl,⟨[],?_,rfl⟩,((Ext.refl w).alloc _).drew⟩
  exact World.ownsRow.drew (World.ownsRow_made w _ cap (Nat.le_refl _) hcap2 (by simp [Builtin.zeroCells];omega))
theorem qkb {α:Type} {xs:List (List α)} {k:Nat} (h:k<xs.length):(xs.take (k+1)).flatten=(xs.take k).flatten++xs[k]:=by
 rw [List.take_succ_eq_append_getElem h,List.flatten_append,List.flatten_cons,List.flatten_nil,List.append_nil]
theorem flat_le {α:Type}:∀ (xs:List (List α)) (k:Nat),(xs.take k).flatten.length<=xs.flatten.length
 | [],k=>by simp
 | x :: xs,0=>by simp
 | x :: xs,k+1=>by have:=flat_le xs k;simp only [List.take_succ_cons,List.flatten_cons,List.length_append];omega
theorem lit_x {α:Type} {R:Rdr α} {k:Nat} {S:Nat->Prop} {W:World} {e:TypeId} {xs:List α} {cs:List Value} (hF:Flat R k S (W.alloc (.cells cs.toArray e)) xs cs) (hn:xs.length<=100000) :
  qdu R k S (W.alloc (.cells cs.toArray e)) xs (.slice (some ⟨W.heap.size,0,none⟩) xs.length xs.length) :=
 ⟨_,_,rfl,Nat.le_refl _,by omega,.inr ⟨W.heap.size,0,rfl,by simp,Flat.row hF fun i x h=>by have:=qew W cs.toArray e i x (by simpa using h);rwa [Addr.add_lit] at this⟩⟩
def qu0 (S:Nat->Prop) (l:List Lb) (w:World) (e:Ending) (w':World):Prop:=∃ A c,e = .returned (.slice A l.length c)∧qab RLb 2 61 w.heap.size (fun q=>S q∧q<w.heap.size) w' l (.slice A l.length c)∧Ext w w'
theorem concat_c (S:Nat->Prop) (xs:List (List Lb)) (v:Value) (w:World) (hx:qdu qaa 1 S w xs v) (hlen:xs.flatten.length<=100000000):Calls Tryz.prog 55 #[v] w (qu0 S xs.flatten w):=by
 obtain ⟨A,c,rfl,hc,hc0,_⟩:=id hx
 have HX:=Hd hx
 obtain ⟨fl,hfl⟩:∃ fl,xs.flatten=fl:=⟨_,rfl⟩
 have hle:=flat_le xs
 rw [hfl] at hlen ⊢
 rw [hfl] at hle
 have HLE:=Hd hle
 have HFL:=Hd hfl
 clear hfl hle
 clear hx
 go_enter Tryz.func55,Tryz.ntmps55
 go_wp2_with fail
 go_loopw [3,11] (fun v3 vi wr=>∃ (k q:Nat),k<=xs.length∧vi = .int .i64 k∧v3 = .int .i64 (q:Int)∧q<=fl.length∧Hid (q=(xs.take k).flatten.length)∧wr=w) (fun _ vi _=>xs.length-(intOf vi).toNat)
 case atStart=>exact ⟨0,0,Nat.zero_le _,rfl,rfl,Nat.zero_le _,(show 0=(xs.take 0).flatten.length by simp),rfl⟩
 case round =>
  obtain ⟨k,q,hk,rfl,rfl,hq,hQ,rfl⟩:=hrel
  by_cases hlt:k<xs.length
  ·obtain ⟨b,off,cs,rfl,hb,hl,hr,hcell⟩:=HX.out.get k hlt
   obtain ⟨u,rfl⟩:∃ u,cs=[u]:=by
    match cs,hl with
    | [u],_=>exact ⟨u,rfl⟩
   have a0:=hcell.get 0 _
   simp only [Nat.add_zero,Nat.mul_one] at a0
   obtain ⟨Au,cu,rfl,hcu,hcu0⟩:=hr.val
   have h1:=HLE.out (k+1)
   rw [qkb hlt,List.length_append,<- hQ.out] at h1
   have HQ2:Hid (q+xs[k].length=(xs.take (k+1)).flatten.length):=by
    show _=_
    rw [qkb hlt,List.length_append,<- hQ.out]
   obtain ⟨m,hm⟩:∃ m,xs[k].length=m:=⟨_,rfl⟩
   rw [hm] at a0 h1 HQ2
   clear hr hl hcell hQ hm
   go_wp2_with fail
   go_roundw
   case rel=>exact ⟨k+1,q+m,by omega,by go_num,by go_num,h1,HQ2,trivial⟩
   case measure=>simp [intOf];omega
  ·obtain ⟨wo,rfl⟩:∃ wo,wo=wr:=⟨_,rfl⟩
   obtain rfl:q=fl.length:=by
    have:=hQ.out
    rwa [List.take_of_length_le (by omega),HFL.out] at this
   have hg:=grow_c (fun q=>S q∧q<wo.heap.size) fl.length (by omega) wo
   clear hQ hq
   go_wp2_with fail
   refine hg.mono ?_
   rintro e w1 ⟨A1,c1,rfl,hO1,hX1⟩
   have HO1:=Hd hO1
   clear hO1 hg
   go_wp2_with fail
   go_loopw [6,27] (fun v6 vi wq=>∃ (k:Nat) (ys:List Lb) (Ao:Option Addr) (co:Nat),k<=xs.length∧vi = .int .i64 k∧v6 = .slice Ao ys.length co∧Hid (ys=(xs.take k).flatten)∧Ext wo wq∧Hid (qab RLb 2 61 wo.heap.size (fun q=>S q∧q<wo.heap.size) wq ys (.slice Ao ys.length co))) (fun _ vi _=>xs.length-(intOf vi).toNat)
   case atStart=>exact ⟨0,[],A1,c1,Nat.zero_le _,rfl,rfl,(show []=(xs.take 0).flatten by simp),hX1,HO1⟩
   case round =>
    obtain ⟨k,ys,Ao,co,hk,rfl,rfl,hY,hE,hO⟩:=hrel
    by_cases hlt:k<xs.length
    ·obtain ⟨b,off,cs,rfl,hb,hl,hr0,hcell0⟩:=HX.out.get k hlt
     have hr:=qaa.good.bel (qaa.good.mono hr0 fun q hq h=>⟨h,hq⟩:qaa (fun q=>S q∧q<wo.heap.size) wo xs[k] cs) hE
     have hcell:qec wr b (off+k*1) cs:=hcell0.move (hE.block b hb)
     obtain ⟨u,rfl⟩:∃ u,cs=[u]:=by
      match cs,hl with
      | [u],_=>exact ⟨u,rfl⟩
     have a0:=hcell.get 0 _
     simp only [Nat.add_zero,Nat.mul_one] at a0
     obtain ⟨Au,cu,rfl,hcu,hcu0⟩:=hr.val
     have h1:=HLE.out (k+1)
     rw [qkb hlt,List.length_append,<- hY.out] at h1
     obtain ⟨A2,c2,w2,hr2,ho2,hb2⟩:=pushN RLb.good (by decide) wo.heap.size 61 22 (.agg #[.int .i64 0,.slice none 0 0]) 32 Tryz.underlying22 qhm rfl (by decide) (fun q=>S q∧q<wo.heap.size) _ ys xs[k] (.slice Ao ys.length co) _ hO.out
      (qaa.good.mono hr fun b _ h=>⟨h,fun e=>by have:=(hO.out.own_lt e).1;have:=h.2;omega⟩) hE.size (by omega)
     have HO2:=Hd ho2
     have hlo:∀ q,(Value.slice Ao ys.length co).ownBlock=some q->wo.heap.size<=q:=fun q e=>(hO.out.own_lt e).1
     have HB2:Hid (Ext wo w2):=Bt.new hE hb2 fun q _ h=>hlo q h
     have HY2:Hid (ys++xs[k]=(xs.take (k+1)).flatten):=by
      show _=_
      rw [qkb hlt,hY.out]
     obtain ⟨x,hxe⟩:∃ x,xs[k]=x:=⟨_,rfl⟩
     rw [hxe] at a0 hr2 HO2 HY2
     clear hr hl hcell hr0 hcell0 hO ho2 hb2 hlo hY h1 hxe
     go_wp2_with (at_builtin;refine wpList_append_run rfl _ _ _ rfl _ _ _ rfl rfl hr2 ?_;clear hr2)
     go_roundw
     case rel=>exact ⟨k+1,ys++x,A2,c2,by omega,by go_num,by rw [List.length_append],HY2,HB2.out,HO2⟩
     case measure=>simp [intOf];omega
    ·have hys:ys=fl:=by
      have:=hY.out
      rwa [List.take_of_length_le (by omega),HFL.out] at this
     subst hys
     go_wp2_with fail
     go_ret
     exact ⟨Ao,co,rfl,hO.out,hE⟩
def qfv (t:Te):Bool:=decide (45<t.tr.length) || decide (70<t.mu.length) || !qet (t.tr++t.mu)
def qio (ts:List Te):Bool:=decide (ts.length<=60) && !(ts.any qfv)
theorem flat2L {S:Nat->Prop} {W:World} {x y:List Lb} {u v:Value} (hx:qaa S W x [u]) (hy:qaa S W y [v]):Flat qaa 1 S W [x,y] [u,v]:=⟨[u],[v],rfl,rfl,hx,[v],[],rfl,rfl,hy,rfl⟩
theorem eg107:∀ args w,(callFunc 107 args).run Tryz.prog w = .ok (.enter 107 args) w:=enters_of Tryz.func107 (by kernel_rfl) rfl
theorem brief1_c (t:Te) (cs:List Value) (w:World) (hx:RTe (fun _=>True) w t cs):Calls Tryz.prog 107 #[.agg cs.toArray] w fun e w'=>e = .returned (.bool (qfv t))∧Ext w w':=by
 obtain ⟨v,u,rfl,hv,hu⟩:=hx
 have hlit:∀ W,Ext w W->qdu qaa 1 (fun _=>True) (W.alloc (.cells #[v,u] 22)) [t.tr,t.mu] (.slice (some ⟨W.heap.size,0,none⟩) 2 2):=fun W hW=>lit_x (cs:=[v,u]) (e:=22) (flat2L (qaa.good.bel hv (hW.alloc _)) (qaa.good.bel hu (hW.alloc _))) (by simp)
 have hcat:=fun (h1:t.tr.length<=45) (h2:t.mu.length<=70) W (hW:Ext w W)=>concat_c (fun _=>True) [t.tr,t.mu] _ _ (hlit W hW) (by simp;omega)
 obtain ⟨A,c,rfl,_,_⟩:=hv.val
 obtain ⟨A',c',rfl,_,_⟩:=hu.val
 clear hv hu hlit
 by_cases h1:45<t.tr.length
 ·have HV:Hid (qfv t=true):=by simp [qfv,h1,Hid]
  clear hcat
  go_enter Tryz.func107,Tryz.ntmps107
  go_wp2_with fail
  go_ret
  exact ⟨by rw [HV.out];rfl,bel⟩
 by_cases h2:70<t.mu.length
 ·have HV:Hid (qfv t=true):=by simp [qfv,h2,Hid]
  clear hcat
  go_enter Tryz.func107,Tryz.ntmps107
  go_wp2_with fail
  go_ret
  exact ⟨by rw [HV.out];rfl,bel⟩
 have HV:Hid (qfv t = !qet (t.tr++t.mu)):=by
  show _=_
  rw [qfv,decide_eq_false h1,decide_eq_false h2]
  rfl
 have hcat:=hcat (by omega) (by omega)
 have hlen:(t.tr++t.mu).length<=4000000:=by rw [List.length_append];omega
 have hfl:[t.tr,t.mu].flatten=t.tr++t.mu:=by simp
 rw [hfl] at hcat
 obtain ⟨fl,hfl2⟩:∃ fl,t.tr++t.mu=fl:=⟨_,rfl⟩
 rw [hfl2] at hcat hlen HV
 clear hfl hfl2
 go_enter Tryz.func107,Tryz.ntmps107
 go_wp2_with fail
 have hcat':=hcat (w.alloc (.cells #[.slice A t.tr.length c,.slice A' t.mu.length c'] 40)) ((Ext.refl w).alloc _)
 rw [World.size_alloc] at hcat'
 refine hcat'.mono ?_
 rintro e w1 ⟨A1,c1,rfl,hO,h3⟩
 have hs:=fun W (hW:Ext w1 W)=>qmm _ fl _ W (qaa.good.bel (hO.sl RLb.good (by decide)) hW) hlen
 have hX1:Ext w w1:=bel
 clear hcat hcat' hO
 go_wp2_with fail
 refine (hs _ bel).mono ?_
 rintro e w2 ⟨rfl,h4⟩
 go_wp2_with fail
 go_ret
 refine ⟨?_,bel⟩
 show Ending.returned (.bool (decide (45<(t.tr.length:Int)) || decide (70<(t.mu.length:Int)) || !qet fl))=_
 rw [HV.out,decide_eq_false (by omega),decide_eq_false (by omega)]
 rfl
theorem brief_c (ts:List Te) (v:Value) (w:World) (hx:RSl RTe 2 (fun _=>True) w ts [v]):Calls Tryz.prog 42 #[v] w fun e w'=>e = .returned (.bool (qio ts))∧Ext w w':=by
 have hcon:=fun W (hW:Ext w W)=>conPTe qfv (fun _=>True) W ts v ((RSl.good RTe.good).bel hx hW) 107 #[] eg107 (fun x _ cs W' _ hr=>brief1_c x cs W' hr)
 obtain ⟨A,c,rfl,_,_⟩:=hx.val
 clear hx
 by_cases h:ts.length<=60
 ·have HV:Hid (qio ts = !(ts.any qfv)):=by simp [qio,h,Hid]
  go_enter Tryz.func42,Tryz.ntmps42
  go_wp2_with fail
  refine (hcon _ bel).mono ?_
  rintro e w1 ⟨rfl,h1⟩
  go_wp2_with fail
  go_ret
  exact ⟨by rw [HV.out];rfl,bel⟩
 ·have HV:Hid (qio ts=false):=by simp [qio,h,Hid]
  go_enter Tryz.func42,Tryz.ntmps42
  go_wp2_with fail
  go_ret
  exact ⟨by rw [HV.out];rfl,bel⟩
end
end Go.Proofs.YtegenalcheooeaaGreat
