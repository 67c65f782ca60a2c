/- Of the proof of a law of the suites: Calm, Behind. -/
import Derived.Test.YtegenalcheooeaaGreatB04
import Derived.Test.YtegenalcheooeaaGreatB05
set_option linter.unusedSectionVars false
set_option linter.unusedSimpArgs false
set_option linter.unusedVariables false
namespace Go.Proofs.YtegenalcheooeaaGreat
open Go.RowKit
attribute [local go_sem] cell?_exto
set_option maxHeartbeats 16000000
set_option maxRecDepth 100000
section
open Go.Shelf
attribute [local go_sem] Oper.semAt_some
def qhf (base:Nat) (r:List Int) (w:World) (e:Ending) (w':World):Prop:=∃v,e = .returned v/\qab qad 1 3 base (λ_=>False) w' r v/\Ext w w'
theorem qhf.at {base b':Nat} {r:List Int} {w w':World} {e:Ending} (h:qhf base r w e w') (m:b'<=base):∃A c,e = .returned (.slice A r.length c)/\qab qad 1 3 b' (λ_=>False) w' r (.slice A r.length c)/\Ext w w':=by
 obtain⟨v,rfl,d,u⟩:=h;obtain⟨A,c,rfl,_,_⟩:=(d.sl qad.good (by decide)).val;exact⟨A,c,rfl,d.base m,u⟩
theorem info3:∃c,Tryz.prog.info? 3=some c/\c.zero=some (.int .i64 0)/\c.size=1/\c.bytes=8:=by
 obtain⟨c,m,d⟩:=Option.map_eq_some_iff.1 qnf;simp only[Prod.mk.injEq]at d;exact⟨c,m,d⟩
theorem qva (s:Sy) (pre:List (Fin s.es.length)) (x:Fin s.es.length) (l:List Int):qbi s (pre++[x]) l=qcr s (qbi s pre l) s.es[x]:=by simp[qbi]
theorem qos (s:Sy) {l:Int} {i:Nat} (h:l=(i:Int)) (hi:i<s.ls.length):qhz s l=s.ls[i].g:=by
 subst h;simp[qhz,hi]
theorem qnx (S:Nat->Prop) (s:Sy) (au:qah s) (g:Nat) (l:List Int) (v:Value) (w:World) (hS:qaz S w g s) (hl:RSl qad 1 S w l [v]) (bx:l.length<=200000) :
  Calls Tryz.prog 208 #[.pointer (some ⟨g,0,none⟩),v] w (qhf w.heap.size (qa4 s l) w):=by
 have HS:=Hd hS;have HL:=Hd hl;have ho:=hl.oneCell;clear hS hl;refine(callsIn_wide (n:=3)).1 ?_;refine callsIn_of_wp_marks Tryz.func208 rfl trivial ?_ rfl;simp only[Tryz.ntmps208,List.size_toArray,List.length_cons,List.length_nil,Nat.reduceAdd,Nat.reduceSub,Array.replicate_succ,Array.replicate_zero,List.push_toArray,List.append_toArray,List.nil_append,List.cons_append];obtain⟨A0,c0,rfl,bP,bB⟩:=HL.out.val
 gi_wp2_with fail
 refine⟨trivial,?_⟩
 gi_at_call 250
 refine(callsIn_wide.2 (cloneInt S l _ _ ((RSl.good qad.good).bel HL.out (((Ext.refl w).alloc _).alloc _)) (by omega))).mono ?_;rintro e w1 ⟨v1,rfl,ap,U⟩;obtain⟨A1,c1,rfl,bJ,bu⟩:=(ap.sl qad.good (by decide)).val;have al:=((Boxed.new w 111 (.pointer (some ⟨g,0,none⟩))).alloc (.cells #[.slice A0 l.length c0] 53))
 have V:=Boxed.new (w.alloc (.cells #[.pointer (some ⟨g,0,none⟩)] 111)) 53 (.slice A0 l.length c0);simp only[World.size_alloc]at V;replace al:Boxed w1 w.heap.size 111 _:=((Ext.kp (S:=λ_=>True) U).block _ al.lt trivial).trans al;replace V:Boxed w1 (w.heap.size+1) 53 _:=((Ext.kp (S:=λ_=>True) U).block _ V.lt trivial).trans V;have a6:=V.cell;have bi:=V.frozen
 gi_wp2
 obtain⟨W1,ag⟩:=nm (w1.setCell ⟨w.heap.size+1,0,none⟩ (.slice A1 l.length c1));have a9:Ext w W1:=by rw[<- ag];exact(((Ext.refl w).alloc _).alloc _ |>.trans' U).set (Nat.le_succ _) _
 have aB:w.heap.size+2<=w1.heap.size:=by have:=U.size;simp at this;omega
 have be:Boxed W1 w.heap.size 111 (.pointer (some ⟨g,0,none⟩)):=by rw[<- ag];exact al.other (by omega) _
 have ba:Boxed W1 (w.heap.size+1) 53 (.slice A1 l.length c1):=by rw[<- ag];exact V.set _
 have a8:qab qad 1 3 (w.heap.size+2) (λ_=>False) W1 l (.slice A1 l.length c1):=by
  rw[<- ag];simp only[World.size_alloc]at ap
  exact ap.int.bt qad.good (Bt.of_grown (grownBy_setCell' w1 (w.heap.size+1) _)) (λb hb hz=>⟨λh=>h,λe=>by
   obtain⟨news,h2,_⟩:=ap;have:=(qcb h2 b e).1
   cases hz
   omega⟩)
 rw[ag];clear ag al V a6 bi ap U aB;have bb:=Hd be;have bo:=Hd ba
 refine wpIn_loop (λa' wr=>∃u5 u10 u11 u12 u13 u14 u15 u16 u17 u18 u19 u20 u21:Value,∃(ds:List Deferred),(∃(k:Nat) (d:List Int) (vk:Value),u5=Value.int .i64 (k:Int)/\k<=d.length/\Boxed wr w.heap.size 111 (.pointer (some ⟨g,0,none⟩))/\Boxed wr (w.heap.size+1) 53 vk/\qab qad 1 3 (w.heap.size+2) (λ_=>False) wr d vk /\
   Marks (w.heap.size+2) ds wr/\Ext w wr/\d.length+qb0 s d<=l.length+s.es.length/\Hid (qbm s (l.length+s.es.length-k) k d=qbm s (l.length+s.es.length) 0 l)) /\
   a'={ tmps:=#[Value.pointer (some ⟨g,0,none⟩),Value.slice A0 l.length c0,Value.pointer (some ⟨w.heap.size,0,none⟩),Value.pointer (some ⟨w.heap.size+1,0,none⟩),Value.slice none 0 0,u5,undef,undef,Value.slice A0 l.length c0,Value.slice A1 l.length c1,u10,u11,u12,u13,u14,u15,u16,u17,u18,u19,u20,u21,undef,undef,undef,undef,undef,undef,undef,undef,undef,undef,undef,undef,undef,undef,undef,undef,undef,undef,undef,undef,undef,undef,undef,undef,undef,undef,undef,undef],defers:=ds })
  (λa' _=>l.length+s.es.length-(intOf (a'.tmps.getD 5 undef)).toNat) ?_ ?_
 .refine ⟨_,_,_,_,_,_,_,_,_,_,_,_,_,[],⟨0,l,_,rfl,Nat.zero_le _,bb.out,bo.out,a8,Marks.nil _ _,a9,by have:=qhe s l;omega,rfl⟩,rfl⟩
 rintro _ wr ⟨u5,u10,u11,u12,u13,u14,u15,u16,u17,u18,u19,u20,u21,ds,⟨k,d,vk,rfl,hk,q1,q2,F,hM,hX,bs,hf⟩,rfl⟩;obtain⟨Ak,ck,rfl,bQ,bC⟩:=(F.sl qad.good (by decide)).val;have e1:=q1.cell;have e2:=q2.cell
 by_cases aD:k<d.length
 .obtain ⟨b,M,cs,rfl,hb,hT,hl,hr,ak⟩:=(F.sl qad.good (by decide)).get k aD;obtain rfl:=hr.1;have g0:=(by simpa using ak.get 0 _:wr.cell? ⟨b,M+k,none⟩=some (.int .i64 d[k]))
  have HO:=Hd F;have HM:=Hd hM;have Hf:=Hd hf.out;have aA:=λW=>(callsIn_wide.1 (qlv 3 (some ⟨g,0,none⟩) d[k] W))
  clear F hM hf ak hr hl hT
  gi_wp2_with fail
  have bU:wr.cell? ⟨w.heap.size,0,none⟩=some (.pointer (some ⟨g,0,none⟩))/\wr.cell? ⟨w.heap.size+1,0,none⟩=some (.slice (some ⟨b,M,none⟩) d.length ck)/\wr.cell? ⟨b,M+k,none⟩=some (.int .i64 d[k]):=⟨e1,e2,g0⟩
  refine wpIn_wide.2 ?_
  go_region_held3 (λW=>W.cell? ⟨w.heap.size,0,none⟩=some (.pointer (some ⟨g,0,none⟩))/\W.cell? ⟨w.heap.size+1,0,none⟩=some (.slice (some ⟨b,M,none⟩) d.length ck)/\W.cell? ⟨b,M+k,none⟩=some (.int .i64 d[k]))
   (first | exact(((qag.refl _).alloc _).alloc _).k3 (by assumption) | exact((qag.refl _).alloc _).k3 (by assumption) | (refine⟨?_,?_,?_⟩ <;> go_simp <;> done))
   (first | (go_at_call 175;refine(aA _).mono ?_;rintro e w' ⟨rfl,rfl⟩))
  gi_wp2_with fail
  obtain⟨W0,ae⟩:=nm (((wr.alloc (.cells #[.pointer (some ⟨g,0,none⟩)] 111)).alloc (.cells #[.int .i64 d[k]] 3)).drew);have bv:W0.heap.size=wr.heap.size+2:=by rw[<- ae];show(World.heap _).size=_;simp
  have af:Ext wr W0:=by rw[<- ae];exact(((Ext.refl wr).alloc _).alloc _).drew
  have bm:Boxed W0 wr.heap.size 111 (.pointer (some ⟨g,0,none⟩)):=by rw[<- ae];exact((Boxed.new wr 111 _).alloc _)
  have a1:Boxed W0 (wr.heap.size+1) 3 (.int .i64 d[k]):=by rw[<- ae];have:=Boxed.new (wr.alloc (.cells #[.pointer (some ⟨g,0,none⟩)] 111)) 3 (.int .i64 d[k]);rwa [World.size_alloc]at this
  rw[ae];clear ae;obtain⟨Z,hZ⟩:∃Z:Nat->Prop,Z=λq=>(S q/\q<w.heap.size)\/q=wr.heap.size:=⟨_,rfl⟩
  have aL:qaz Z W0 g s:=(HS.out.mono (S':=Z) λq U h2=>by rw[hZ];exact .inl ⟨h2,U⟩).bel (hX.trans' af)
  have aX:∀q,Z q->q<W0.heap.size:=λq N=>by
   rw[hZ]at N;have:=hX.size
   rcases N with⟨_,h⟩ | h <;> omega
  obtain⟨vk0,ai⟩:=nm (Value.slice (some ⟨b,M,none⟩) d.length ck);have aq:=HO.out;rw[ai]at aq q2;have aP:qab qad 1 3 (w.heap.size+2) (λ_=>False) W0 d vk0:=aq.ext qad.good af;have aI:Boxed W0 (w.heap.size+1) 53 vk0:=(Ext.kp (S:=λ_=>True) af).block _ q2.lt trivial |>.trans q2
  have aC:Boxed W0 w.heap.size 111 (.pointer (some ⟨g,0,none⟩)):=(Ext.kp (S:=λ_=>True) af).block _ q1.lt trivial |>.trans q1
  have L:∀q,vk0.ownBlock=some q->w.heap.size+2<=q/\q<wr.heap.size:=λq N=>by obtain⟨news,U,_⟩:=aq;exact qcb U q N
  have ay:∀q,Z q->¬ (q=w.heap.size+1\/vk0.ownBlock=some q):=λq N e=>by
   rw[hZ]at N;have:=q1.lt;have:=q2.lt
   rcases e with rfl | e
   .rcases N with⟨_,h⟩ | h <;> omega
   have:=L q e
   rcases N with⟨_,h⟩ | h <;> omega
  have an:=qsj (base:=w.heap.size+2) (vk0:=vk0) (row:=λpre=>qbi s pre d) aI.lt;have bX:=Hd ai;clear ai aq;have bw:=q1.lt;have bA:=q2.lt;have bS:=hX.size
  refine wpIn_rangeFunc_ownH rfl (by omega) (gf:=234) (lb:=#[.pointer (some ⟨wr.heap.size,0,none⟩),.pointer (some ⟨wr.heap.size+1,0,none⟩)]) rfl trivial (enters_of Tryz.func234 (by kernel_rfl) rfl)
   (qk7 (3-1) (by omega) Z s g wr.heap.size (wr.heap.size+1) d[k] (by rw[hZ];exact .inr rfl) W0 aL bm.cell a1.cell) kp_t (kp_b aX) (Below.refl _ _) (λ_=>rfl)
   (qel (w.heap.size+1) (w.heap.size+2) vk0 W0 (λpre=>qbi s pre d)) (λ_ _ _=>False) an (λ_ _ _ _ _ hs _ _=>hs)
   (qel.start aI aP)
   (λx a' W=>∃Bx,W0.heap.size<=Bx/\W.heap[Bx]? = some (.cells #[.int .i64 s.es[x].f,.int .i64 s.es[x].l,.int .i64 s.es[x].t] 88)/\a'={ tmps:=#[Value.pointer (some ⟨g,0,none⟩),Value.slice A0 l.length c0,Value.pointer (some ⟨w.heap.size,0,none⟩),Value.pointer (some ⟨w.heap.size+1,0,none⟩),Value.slice none 0 0,Value.int .i64 (k:Int),undef,Value.pointer (some ⟨Bx,0,none⟩),Value.slice A0 l.length c0,Value.slice A1 l.length c1,Value.int .i64 (k:Int),Value.slice (some ⟨b,M,none⟩) d.length ck,Value.int .i64 (d.length:Int),Value.bool true,u14,u15,Value.pointer (some ⟨g,0,none⟩),Value.slice (some ⟨b,M,none⟩) d.length ck,Value.int .i64 (k:Int),Value.pointer (some ⟨b,M+k,none⟩),Value.int .i64 d[k],Value.func (Fn.func 234) #[] #[Value.pointer (some ⟨wr.heap.size,0,none⟩),Value.pointer (some ⟨wr.heap.size+1,0,none⟩)],Value.int .i64 (x.1:Int),Value.agg #[.int .i64 s.es[x].f,.int .i64 s.es[x].l,.int .i64 s.es[x].t],undef,undef,undef,undef,undef,undef,undef,undef,undef,undef,undef,undef,undef,undef,undef,undef,undef,undef,undef,undef,undef,undef,undef,undef,undef,undef],defers:=[] })
   (λx a' _ X Y row hs hg hr=>by
    obtain⟨Bx,U,h2,h3⟩:=hs
    exact⟨Bx,U,(hg.block Bx (Array.getElem?_eq_some_iff.1 h2).1 λe=>by
     obtain⟨_,o',h4,h5⟩:=hr Bx e.symm;rw[h2]at h4
     cases h4
     cases h5).trans h2,h3⟩)
   ?assign ?body ?done ?stop
  case assign =>
   rintro l2 pre x W K hI hK;unfold qig
   gi_wp2
   refine hK _ _ ((KeepsOthers.alloc _ _).from _) ⟨by simp,λq U _=>Below.heap_alloc _ _ _ U⟩ (an.alloc _ hI) ⟨W.heap.size,hI.bt.size,World.alloc_heap_new W _,rfl⟩
  case body =>
   rintro l2 pre x a' W bW _ hI ⟨Bx,bG,aa,rfl⟩ a7;obtain⟨xi,am⟩:=x;have aH:=(au.2.2.2.2.2 xi am).1
   have bz:0<=s.es[xi].l/\s.es[xi].l<s.ls.length:=by
    simp only[qb8,isB,Bool.and_eq_true,decide_eq_true_eq]at aH;omega
   have aE:I64 s.es[xi].t:=by
    simp only[qb8,isB,Bool.and_eq_true,decide_eq_true_eq]at aH;have:=au.2.1;exact⟨by omega,by omega⟩
   obtain⟨li,aM⟩:∃li:Nat,s.es[xi].l=(li:Int):=⟨s.es[xi].l.toNat,by omega⟩
   have aw:li<s.ls.length:=by omega
   obtain⟨aK,q3,A,ao⟩:=hI.row;have a0:(qbi s pre d).length<=500000:=by have:=(qhn s pre d).1;have:=au.2.2.2.1;omega
   have aF:=hI.bt;obtain⟨A3,c3,rfl,bR,bD⟩:=(A.sl qad.good (by decide)).val;obtain⟨v',u',m,f,U,h2,h3,h4,h5,h6,h7,h8⟩:=(aL.move (aF.kp λq _ N=>ay q N)).ex;obtain⟨bl,ol,cl,bH,rfl,bL,bV,bM,aV,aU⟩:=h2.at li aw;obtain⟨il,vl,rfl,a3⟩:=id aV;have g1:W.cell? ⟨g,1,none⟩=some (.slice (some ⟨bl,ol,none⟩) s.ls.length cl):=cell_of_row W _ 1 _ _ _ U;have gl:W.cell? ⟨bl,ol+li*2,none⟩=some (.int .i64 s.ls[li].g):=by simpa using aU.get 0 _
   have x1:W.cell? ⟨Bx,1,none⟩=some (.int .i64 (li:Int)):=by rw[<- aM];exact cell_of_row W _ 1 _ _ _ aa
   have x2:W.cell? ⟨Bx,2,none⟩=some (.int .i64 s.es[xi].t):=cell_of_row W _ 2 _ _ _ aa
   have y1:W.cell? ⟨w.heap.size,0,none⟩=some (.pointer (some ⟨g,0,none⟩)):=aF.cell aC.cell (by
    rintro(e | e)
    .exact absurd e (by simp)
    have:=(L _ e).1;simp at this;omega)
   have y2:=q3.cell;have HI:=Hd hI;have bn:=Hd A;have aR:=Hd q3;have aO:=Hd ao;have ab:=Hd (qva s pre ⟨xi,am⟩ d);have ah:=Hd (qos s aM aw);have E:=λx=>quu _ (qbi s pre d) s.es[xi].t _ (qam W x) ((RSl.good qad.good).bel (A.sl qad.good (by decide)) (qa7 W x))
   clear hI A q3 h2 h3 h6 h7 h8 aV aU a3 aH U aF ao
   by_cases ad:s.ls[li].g = -1
   .have bk:(s.ls[li].g == -1)=true:=beq_iff_eq.2 ad
    by_cases G:s.es[xi].t∈qbi s pre d
    .have I:∀x,Calls Tryz.prog 32 #[.slice A3 (qbi s pre d).length c3,.int .i64 s.es[xi].t] (qam W x) λe w'=>e = .returned (.bool true)/\w'=qam W x:=λx=>by have:=E x;rwa [decide_eq_true G]at this
     have ac:Hid (qbi s (pre++[⟨xi,am⟩]) d=qbi s pre d):=by
      show _=_;rw[ab.out,qcr,if_neg];rintro⟨_,h⟩;exact h G
     clear E G ad aa
     gi_wp2_with fail
     (refine qds (by kernel_rfl) (by kernel_rfl) (by kernel_rfl) ?_;(repeat (first | go_big_quiet_step ((go_at_call 32;exact qbs (I _))) | quiet_step ((go_at_call 32;exact qbs (I _)))));refine wpQuiet_nil ?_)
     intro w4 u
     gi_wp2
     exact⟨qfu u _,Ext.kp u,HI.out.same u ac.out⟩
    have I:∀x,Calls Tryz.prog 32 #[.slice A3 (qbi s pre d).length c3,.int .i64 s.es[xi].t] (qam W x) λe w'=>e = .returned (.bool false)/\w'=qam W x:=λx=>by have:=E x;rwa [decide_eq_false G]at this
    have aS:Hid (qbi s (pre++[⟨xi,am⟩]) d=qbi s pre d++[s.es[xi].t]):=by
     show _=_;rw[ab.out,qcr,if_pos ⟨ah.out.trans ad,G⟩];rfl
    clear E G ad aa
    gi_wp2_with fail
    (refine qds (by kernel_rfl) (by kernel_rfl) (by kernel_rfl) ?_;(repeat (first | go_big_quiet_step ((go_at_call 32;exact qbs (I _))) | quiet_step ((go_at_call 32;exact qbs (I _)))));refine wpQuiet_nil ?_)
    intro w4 u;obtain⟨i3,bh,bj,aB,bf⟩:=info3;have q4:Boxed w4 (w.heap.size+1) 53 _:=((Ext.kp (S:=λ_=>True) u).block _ aR.out.lt trivial).trans aR.out;have r4:=bn.out.ext qad.good u;have aN:=Hd r4;obtain⟨news,aj,aJ⟩:=r4;obtain⟨rfl,bp⟩:=aJ.ints;have y4:=q4.cell;have x4:=Ext.keep u x2;have bE:=u.size;have br:=HI.out.bt.size;have az:=Hd q4;clear aJ q4 y1 y2 x1 x2 g1 gl I
    gi_wp2_with (gi_at_builtin;refine qqc _ rfl _ _ 53 rfl (w.heap.size+2) 3 i3 (.int .i64 0) 1 8 Tryz.underlying53 bh bj aB bf rfl (by decide) _ _ _ rfl (aj.alloc _) ⟨w4.heap.size,0,none⟩ 1 1 [.int .i64 s.es[xi].t] rfl rfl (cell_one_new _ _ _) (by simp[Value.oneCell']) (by unfold maxLen;omega) (by omega) (by simp;omega) ?_;intro v5 w5 O J ax;obtain⟨g5,c5,rfl⟩:=ownsRow_succ O;have p5:=(qnt bp aE az.out aj O J).1;have bF:=p5.cell;have bI:=p5.frozen)
    rw[World.size_alloc]at ax;have bd:qel (w.heap.size+1) (w.heap.size+2) vk0 W0 (λpre=>qbi s pre d) pre w4:=HI.out.move u
    obtain⟨a5,bc⟩:=qsl az.out aN.out aE O J W0.heap.size (Z:=Z) (λq _ N e=>by
     rcases e with e | e
     .exact ay q N (.inl e)
     rcases aO.out with h0 | h0
     .exact ay q N (.inr (h0 ▸ e))
     have:=h0 q e;have:=aX q N;omega)
    exact⟨(qfu u _).trans a5,(Ext.kp u).trans bc,bd.push az.out aN.out aO.out aE O J ax aS.out⟩
   have bk:(s.ls[li].g == -1)=false:=beq_eq_false_iff_ne.2 ad
   have ac:Hid (qbi s (pre++[⟨xi,am⟩]) d=qbi s pre d):=by
    show _=_;rw[ab.out,qcr,if_neg];rintro⟨h,_⟩;exact ad (ah.out.symm.trans h)
   clear E ad aa
   gi_wp2_with fail
   (refine qds (by kernel_rfl) (by kernel_rfl) (by kernel_rfl) ?_;(repeat (first | go_big_quiet_step ((fail)) | quiet_step ((fail))));refine wpQuiet_nil ?_)
   intro w4 u
   gi_wp2
   exact⟨qfu u _,Ext.kp u,HI.out.same u ac.out⟩
  case done =>
   rintro D ys W hD rfl hI aY;obtain⟨aK,q3,A,ao⟩:=hI.row;have bK:=qhn s (qay s.es d[k]) d;have HD:=Hd aY;have HQ:=Hd q3;have HW:=Hd A;have HI:=Hd hI;clear aY q3 A hI
   gi_wp2
   have bT:=hX.size;have bO:=HI.out.bt.size;refine⟨⟨_,_,_,_,_,_,_,_,_,_,_,_,_,_,?calmP,rfl⟩,?calmM⟩
   case calmP =>
    have bq:Boxed W w.heap.size 111 (.pointer (some ⟨g,0,none⟩)):=(HI.out.bt.block _ aC.lt (by
     rintro(e | e)
     .exact absurd e (by omega)
     have:=(L _ e).1;omega)).trans aC
    have a4:Ext w W:=Bt.new (hX.trans' af) HI.out.bt λq _ N=>by
     rcases N with rfl | N
     .omega
     have:=(L q N).1;omega
    refine⟨k+1,qbi s (qay s.es d[k]) d,aK,by go_num,by omega,bq,HQ.out,HW.out,HM.out.cons (by omega) (by omega) HD.out λr U h2=>?_,a4,by omega,?_⟩
    .have h3:W0.heap[r]? = some (.deferred (some [])):=((Ext.kp (S:=λ_=>True) af).block r U trivial).trans h2;refine(HI.out.bt.block r (by omega) ?_).trans h3;rintro(e | e)
     .subst e;rw[show W0.heap[w.heap.size+1]? = _ from aI]at h3
      cases h3
     exact aP.not_def h3 e
    rw[<- Hf.out];obtain⟨m,hm⟩:∃m,l.length+s.es.length-k=m+1:=⟨l.length+s.es.length-k-1,by omega⟩
    rw[hm,qbm,dif_pos aD,show l.length+s.es.length-(k+1)=m from by omega];rfl
   simp[intOf];omega
  rintro D c pre W _ _ h _;exact h.elim
 have a2:d.length<4611686018427387904:=by have:=au.2.2.2.1;omega
 have aZ:(Value.slice Ak d.length ck).ownBlock≠some w.heap.size/\(Value.slice Ak d.length ck).ownBlock≠some (w.heap.size+1):=by
  obtain⟨news,h2,_⟩:=F;exact⟨λe=>by have:=(qcb h2 _ e).1;omega,λe=>by have:=(qcb h2 _ e).1;omega⟩
 have HO:=Hd F;have HM:=Hd hM
 have av:qa4 s l=qdp d:=by
  rw[qa4,<- hf.out]
  cases N:l.length+s.es.length-k with
  | zero=>rw[qbm]
  | succ m=>rw[qbm,dif_neg aD]
 have HV:=Hd av;have HN:=Hd aZ;clear F hM av hf aZ
 gi_wp2_with fail
 refine⟨trivial,?_⟩
 gi_at_call 59
 refine(callsIn_wide.2 (qpk _ _ d _ wr HO.out a2)).mono ?_;rintro e w2 ⟨rfl,aW,aG⟩;have bN:w2.cell? ⟨w.heap.size+1,0,none⟩=some (Value.slice Ak d.length ck):=aG.cell e2 HN.out.2;have aT:=Hd aW;clear aW
 gi_wp2_with fail
 have bg:Marks (w.heap.size+2) ds w2:=HM.out.keep λr hr h=>(aG.block r (Array.getElem?_eq_some_iff.1 h).1 (HO.out.not_def h)).trans h
 refine Marks.leave (by simp) bg λw3 aQ=>?_
 refine⟨_,results_tmp rfl _ _ _,_,rfl,?_,?_⟩
 .rw [HV.out];exact(aT.out.bt qad.good aQ λb _ hz=>⟨λh=>h,aT.out.not_def hz.2⟩).base (by omega)
 exact Bt.new (Bt.new hX aG λi _ hi=>by
 obtain⟨news,h2,_⟩:=HO.out;have:=(qcb h2 i hi).1
 omega) aQ λi _ hi=>by have:=hi.1;omega
end
section
open Go.Shelf
attribute [local go_sem] Oper.semAt_some
def qev (s:Sy) (l:Int) (p:Lb->Bool):Bool:=((s.ls[l.toNat]?).map p).getD false
theorem qhb (s:Sy) {l:Int} {i:Nat} (p:Lb->Bool) (h:l=(i:Int)) (hi:i<s.ls.length):qev s l p=p s.ls[i]:=by
 subst h;simp[qev,hi]
def qft (s:Sy) (x:Lb) (l:List Int) (e:Ed):List Int:=if qev s e.l (λy=>qat y.g && decide (qak y x=0))=true/\e.t∉l then l++[e.t] else l
def qce (s:Sy) (x:Lb) (is:List (Fin s.es.length)) (l:List Int):List Int:=is.foldl (λl i=>qft s x l s.es[i]) l
def qb1 (s:Sy) (x:Lb) (sts:List Int):List Int:=sts.foldl (λl st=>qce s x (qay s.es st) l) []
def qd0 (s:Sy) (x:Lb) (sts:List Int):List Int:=qa4 s (qb1 s x sts)
theorem qy5 (s:Sy) (x:Lb) (pre:List (Fin s.es.length)) (i:Fin s.es.length) (l:List Int):qce s x (pre++[i]) l=qft s x (qce s x pre l) s.es[i]:=by simp[qce]
theorem qw3 (s:Sy) (x:Lb) (c:List Int) (d:Int):qb1 s x (c++[d])=qce s x (qay s.es d) (qb1 s x c):=by simp[qb1]
theorem qy4 (s:Sy) (x:Lb) (l:List Int) (e:Ed) (d:e∈s.es):(qft s x l e).length+qb0 s (qft s x l e)<=l.length+qb0 s l:=by
 unfold qft
 split
 .rename_i h
  have:=qmm (λx:Ed=>decide (x.t∉l++[e.t])) (λx:Ed=>decide (x.t∉l)) (λx c=>by
   simp only[List.mem_append,not_or,decide_eq_true_eq]at c ⊢;exact c.1) s.es e d (by simp) (by simpa using h.2)
  simp only[qb0,List.length_append,List.length_cons,List.length_nil]at this ⊢;omega
 exact Nat.le_refl _
theorem qqo (s:Sy) (x:Lb):∀(is:List (Fin s.es.length)) (l:List Int),(qce s x is l).length+qb0 s (qce s x is l)<=l.length+qb0 s l
 | [],l=>Nat.le_refl _
 | i :: is,l=>Nat.le_trans (qqo s x is (qft s x l s.es[i])) (qy4 s x l s.es[i] (List.getElem_mem _))
theorem qpi (s:Sy) (x:Lb) (c:List Int):(qb1 s x c).length+qb0 s (qb1 s x c)<=s.es.length:=by
 have:∀(c l:List Int),l.length+qb0 s l<=s.es.length->(c.foldl (λl d=>qce s x (qay s.es d) l) l).length+qb0 s (c.foldl (λl d=>qce s x (qay s.es d) l) l)<=s.es.length:=by
  intro c
  induction c with
  | nil=>exact λl h=>h
  | cons d c ih=>exact λl h=>ih _ (Nat.le_trans (qqo s x _ l) h)
 exact this c [] (by simpa using qhe s [])
theorem qsg (S:Nat->Prop) (s:Sy) (ap:qah s) (g:Nat) (l:List Int) (x:Lb) (v vx:Value) (w:World) (hS:qaz S w g s) (hl:RSl qad 1 S w l [v]) (hx:RLb S w x [.int .i64 x.g,vx]) (bF:l.length<=4611686018427387903) :
  Calls Tryz.prog 221 #[.pointer (some ⟨g,0,none⟩),v,.agg #[.int .i64 x.g,vx]] w (qhf w.heap.size (qd0 s x l) w):=by
 have HS:=Hd hS;have HL:=Hd hl;have HX:=Hd hx;have ho:=hl.oneCell;obtain⟨_,bT,av,an⟩:=id hx;simp only[List.cons.injEq,true_and,and_true]at av;obtain rfl:=av;obtain⟨Ax,cx,rfl,a7,aU⟩:=an.val;clear hS hl hx an;refine(callsIn_wide (n:=3)).1 ?_;refine callsIn_of_wp_marks Tryz.func221 rfl trivial ?_ rfl;simp only[Tryz.ntmps221,List.size_toArray,List.length_cons,List.length_nil,Nat.reduceAdd,Nat.reduceSub,Array.replicate_succ,Array.replicate_zero,List.push_toArray,List.append_toArray,List.nil_append,List.cons_append];obtain⟨A0,c0,rfl,bV,bI⟩:=HL.out.val
 gi_wp2_with fail
 obtain⟨vx,an⟩:=nm (Value.slice Ax x.v.length cx);rw[an]at HX ⊢;clear an a7 aU;obtain⟨W1,ae⟩:=nm (((w.alloc (.cells #[.pointer (some ⟨g,0,none⟩)] 111)).alloc (.cells #[.int .i64 x.g,vx] 61)).alloc (.cells #[.slice none 0 0] 53));have bj:Ext w W1:=by rw[<- ae];exact(((Ext.refl w).alloc _).alloc _).alloc _
 have bm:Boxed W1 w.heap.size 111 (.pointer (some ⟨g,0,none⟩)):=by rw[<- ae];exact((Boxed.new w 111 _).alloc _).alloc _
 have a9:W1.heap[w.heap.size+1]? = some (.cells #[.int .i64 x.g,vx] 61 (0,0)):=by
  rw[<- ae];have h:=World.alloc_heap_new (w.alloc (.cells #[.pointer (some ⟨g,0,none⟩)] 111)) (.cells #[.int .i64 x.g,vx] 61);rw[World.size_alloc]at h;exact(Below.heap_alloc _ _ _ (by simp)).trans h
 have bu:Boxed W1 (w.heap.size+2) 53 (.slice none 0 0):=by
  rw[<- ae];have h:=Boxed.new ((w.alloc (.cells #[.pointer (some ⟨g,0,none⟩)] 111)).alloc (.cells #[.int .i64 x.g,vx] 61)) 53 (.slice none 0 0)
  rwa [World.size_alloc,World.size_alloc]at h
 rw[ae];clear ae;have bk:=Hd bm;have bz:=Hd a9;have bi:=Hd bu
 refine wpIn_loop (λa' wr=>∃u9 u14 u15 u16 u17 u18 u19 u20 u59:Value,∃(ds:List Deferred),(∃(k:Nat) (vk:Value),u14=Value.int .i64 (k:Int)/\k<=l.length/\Boxed wr w.heap.size 111 (.pointer (some ⟨g,0,none⟩))/\wr.heap[w.heap.size+1]? = some (.cells #[.int .i64 x.g,vx] 61 (0,0))/\Boxed wr (w.heap.size+2) 53 vk/\qab qad 1 3 (w.heap.size+3) (λ_=>False) wr (qb1 s x (l.take k)) vk /\
   Marks (w.heap.size+3) ds wr/\Ext w wr) /\
   a'={ tmps:=#[Value.pointer (some ⟨g,0,none⟩),Value.slice A0 l.length c0,Value.agg #[.int .i64 x.g,vx],Value.pointer (some ⟨w.heap.size,0,none⟩),undef,Value.pointer (some ⟨w.heap.size+1,0,none⟩),Value.slice none 0 0,Value.pointer (some ⟨w.heap.size+2,0,none⟩),undef,u9,undef,undef,Value.slice A0 l.length c0,Value.int .i64 (l.length:Int),u14,u15,u16,u17,u18,u19,u20,undef,undef,undef,undef,undef,undef,undef,undef,undef,undef,undef,undef,undef,undef,undef,undef,undef,undef,undef,undef,undef,undef,undef,undef,undef,undef,undef,undef,undef,undef,undef,undef,undef,undef,undef,undef,undef,undef,u59,undef,undef,undef],defers:=ds })
  (λa' _=>l.length-(intOf (a'.tmps.getD 14 undef)).toNat) ?_ ?_
 .refine ⟨_,_,_,_,_,_,_,_,_,[],⟨0,_,rfl,Nat.zero_le _,bk.out,bz.out,bi.out,?_,Marks.nil _ _,bj⟩,rfl⟩;simp only[List.take_zero];exact qab.nil ..
 rintro _ wr ⟨u9,u14,u15,u16,u17,u18,u19,u20,u59,ds,⟨k,vk,rfl,hk,q1,qx,q2,aa,hM,hX⟩,rfl⟩;have e1:=q1.cell;have e2:=q2.cell
 by_cases aV:k<l.length
 .obtain ⟨b,aq,cs,rfl,hb,hT,hl,hr,ah⟩:=((RSl.good qad.good).bel HL.out hX).get k aV;obtain rfl:=hr.1;have g0:=(by simpa using ah.get 0 _:wr.cell? ⟨b,aq+k,none⟩=some (.int .i64 l[k]))
  have HO:=Hd aa;have HM:=Hd hM;have aC:=λW=>(callsIn_wide.1 (qlv 3 (some ⟨g,0,none⟩) l[k] W))
  clear aa hM ah hr hl hT
  gi_wp2_with fail
  refine⟨trivial,?_⟩
  gi_at_call 175
  refine(callsIn_wide.2 (aC _)).mono ?_;rintro e w' ⟨rfl,rfl⟩
  gi_wp2_with fail
  obtain⟨W0,ad⟩:=nm ((wr.alloc (.cells #[.pointer (some ⟨g,0,none⟩)] 111)).alloc (.cells #[.int .i64 l[k]] 3));have bD:W0.heap.size=wr.heap.size+2:=by rw[<- ad];show(World.heap _).size=_;simp
  have ab:Ext wr W0:=by rw[<- ad];exact((Ext.refl wr).alloc _).alloc _
  have bw:Boxed W0 wr.heap.size 111 (.pointer (some ⟨g,0,none⟩)):=by rw[<- ad];exact((Boxed.new wr 111 _).alloc _)
  have a8:Boxed W0 (wr.heap.size+1) 3 (.int .i64 l[k]):=by rw[<- ad];have:=Boxed.new (wr.alloc (.cells #[.pointer (some ⟨g,0,none⟩)] 111)) 3 (.int .i64 l[k]);rwa [World.size_alloc]at this
  rw[ad];clear ad;obtain⟨Z,hZ⟩:∃Z:Nat->Prop,Z=λq=>(S q/\q<w.heap.size)\/q=wr.heap.size:=⟨_,rfl⟩
  have aO:qaz Z W0 g s:=(HS.out.mono (S':=Z) λq h1 h2=>by rw[hZ];exact .inl ⟨h2,h1⟩).bel (hX.trans' ab);have bc:RLb Z W0 x [.int .i64 x.g,vx]:=RLb.good.bel (RLb.good.mono HX.out (S':=Z) λq h1 h2=>by rw[hZ];exact .inl ⟨h2,h1⟩) (hX.trans' ab)
  have a4:∀q,Z q->q<W0.heap.size:=λq hq=>by
   rw[hZ]at hq;have:=hX.size
   rcases hq with⟨_,h⟩ | h <;> omega
  have aW:qab qad 1 3 (w.heap.size+3) (λ_=>False) W0 (qb1 s x (l.take k)) vk:=HO.out.ext qad.good ab;have aJ:Boxed W0 (w.heap.size+2) 53 vk:=(Ext.kp (S:=λ_=>True) ab).block _ q2.lt trivial |>.trans q2
  have aD:Boxed W0 w.heap.size 111 (.pointer (some ⟨g,0,none⟩)):=(Ext.kp (S:=λ_=>True) ab).block _ q1.lt trivial |>.trans q1
  have aN:w.heap.size+1<wr.heap.size:=(Array.getElem?_eq_some_iff.1 qx).1;have aR:W0.heap[w.heap.size+1]? = some (.cells #[.int .i64 x.g,vx] 61 (0,0)):=(Ext.kp (S:=λ_=>True) ab).block _ aN trivial |>.trans qx
  have F:∀q,vk.ownBlock=some q->w.heap.size+3<=q/\q<wr.heap.size:=λq hq=>by obtain⟨news,h1,_⟩:=HO.out;exact qcb h1 q hq
  have bE:=q1.lt;have bH:=q2.lt;have bY:=hX.size
  have aA:∀q,Z q->¬ (q=w.heap.size+2\/vk.ownBlock=some q):=λq hq e=>by
   rw[hZ]at hq
   rcases e with rfl | e
   .rcases hq with⟨_,h⟩ | h <;> omega
   have:=F q e
   rcases hq with⟨_,h⟩ | h <;> omega
  have am:=qsj (base:=w.heap.size+3) (vk0:=vk) (row:=λpre=>qce s x pre (qb1 s x (l.take k))) aJ.lt
  refine wpIn_rangeFunc_ownH rfl (by omega) (gf:=234) (lb:=#[.pointer (some ⟨wr.heap.size,0,none⟩),.pointer (some ⟨wr.heap.size+1,0,none⟩)]) rfl trivial (enters_of Tryz.func234 (by kernel_rfl) rfl)
   (qk7 (3-1) (by omega) Z s g wr.heap.size (wr.heap.size+1) l[k] (by rw[hZ];exact .inr rfl) W0 aO bw.cell a8.cell) kp_t (kp_b a4) (Below.refl _ _) (λ_=>rfl)
   (qel (w.heap.size+2) (w.heap.size+3) vk W0 (λpre=>qce s x pre (qb1 s x (l.take k)))) (λ_ _ _=>False) am (λ_ _ _ _ _ hs _ _=>hs)
   (qel.start aJ aW)
   (λi a' W=>∃Bx,W0.heap.size<=Bx/\W.heap[Bx]? = some (.cells #[.int .i64 s.es[i].f,.int .i64 s.es[i].l,.int .i64 s.es[i].t] 88)/\a'={ tmps:=#[Value.pointer (some ⟨g,0,none⟩),Value.slice (some ⟨b,aq,none⟩) l.length c0,Value.agg #[.int .i64 x.g,vx],Value.pointer (some ⟨w.heap.size,0,none⟩),undef,Value.pointer (some ⟨w.heap.size+1,0,none⟩),Value.slice none 0 0,Value.pointer (some ⟨w.heap.size+2,0,none⟩),undef,Value.int .i64 l[k],undef,Value.pointer (some ⟨Bx,0,none⟩),Value.slice (some ⟨b,aq,none⟩) l.length c0,Value.int .i64 (l.length:Int),Value.int .i64 (k:Int),Value.bool true,Value.pointer (some ⟨b,aq+k,none⟩),Value.int .i64 l[k],Value.pointer (some ⟨g,0,none⟩),Value.int .i64 l[k],Value.func (Fn.func 234) #[] #[Value.pointer (some ⟨wr.heap.size,0,none⟩),Value.pointer (some ⟨wr.heap.size+1,0,none⟩)],Value.int .i64 (i.1:Int),Value.agg #[.int .i64 s.es[i].f,.int .i64 s.es[i].l,.int .i64 s.es[i].t],undef,undef,undef,undef,undef,undef,undef,undef,undef,undef,undef,undef,undef,undef,undef,undef,undef,undef,undef,undef,undef,undef,undef,undef,undef,undef,undef,undef,undef,undef,undef,undef,undef,undef,undef,undef,u59,undef,undef,undef],defers:=[] })
   (λi a' _ X Y row hs hg hr=>by
    obtain⟨Bx,h1,h2,h3⟩:=hs
    exact⟨Bx,h1,(hg.block Bx (Array.getElem?_eq_some_iff.1 h2).1 λe=>by
     obtain⟨_,o',h4,h5⟩:=hr Bx e.symm;rw[h2]at h4
     cases h4
     cases h5).trans h2,h3⟩)
   ?assign ?body ?done ?stop
  case assign =>
   rintro l2 pre i W K hI hK;unfold qig
   gi_wp2
   refine hK _ _ ((KeepsOthers.alloc _ _).from _) ⟨by simp,λq h1 _=>Below.heap_alloc _ _ _ h1⟩ (am.alloc _ hI) ⟨W.heap.size,hI.bt.size,World.alloc_heap_new W _,rfl⟩
  case body =>
   rintro l2 pre i a' W b1 _ hI ⟨Bx,bO,ai,rfl⟩ bh;obtain⟨J,af⟩:=i;have aI:=(ap.2.2.2.2.2 J af).1
   have bG:0<=s.es[J].l/\s.es[J].l<s.ls.length:=by
    simp only[qb8,isB,Bool.and_eq_true,decide_eq_true_eq]at aI;omega
   have aE:I64 s.es[J].t:=by
    simp only[qb8,isB,Bool.and_eq_true,decide_eq_true_eq]at aI;have:=ap.2.1;exact⟨by omega,by omega⟩
   obtain⟨V,aP⟩:∃V:Nat,s.es[J].l=(V:Int):=⟨s.es[J].l.toNat,by omega⟩
   have ax:V<s.ls.length:=by omega
   obtain⟨aL,q3,A,ao⟩:=hI.row;have a6:(qce s x pre (qb1 s x (l.take k))).length<=100000:=by have:=qqo s x pre (qb1 s x (l.take k));have:=qpi s x (l.take k);have:=ap.2.2.2.1;omega
   have au:=hI.bt;obtain⟨A3,c3,rfl,bX,bK⟩:=(A.sl qad.good (by decide)).val;have aZ:=au.kp λq _ hq=>aA q hq
   obtain⟨v',u',m,f,h1,h2,h3,h4,h5,h6,h7,h8⟩:=(aO.move aZ).ex;obtain⟨bl,ol,cl,bP,rfl,bR,bZ,bS,aG,aF⟩:=h2.at V ax;have aM:=RLb.good.move bc aZ;obtain⟨il,vl,rfl,ba⟩:=id aG;have G:=λX=>qi2 Z s.ls[V] x _ _ (qam W X) (RLb.good.bel aG (qa7 W X)) (RLb.good.bel aM (qa7 W X))
   have M:=λX=>qj0 s.ls[V].g vl (qam W X)
   have g1:W.cell? ⟨g,1,none⟩=some (.slice (some ⟨bl,ol,none⟩) s.ls.length cl):=cell_of_row W _ 1 _ _ _ h1;have gl:W.cell? ⟨bl,ol+V*2,none⟩=some (.int .i64 s.ls[V].g):=by simpa using aF.get 0 _
   have bb:W.cell? ⟨bl,ol+V*2+1,none⟩=some vl:=aF.get 1 _;have x1:W.cell? ⟨Bx,1,none⟩=some (.int .i64 (V:Int)):=by rw[<- aP];exact cell_of_row W _ 1 _ _ _ ai
   have x2:W.cell? ⟨Bx,2,none⟩=some (.int .i64 s.es[J].t):=cell_of_row W _ 2 _ _ _ ai
   have y1:W.cell? ⟨w.heap.size,0,none⟩=some (.pointer (some ⟨g,0,none⟩)):=au.cell aD.cell (by
    rintro(e | e)
    .exact absurd e (by simp)
    have:=(F _ e).1;simp at this;omega)
   have aj:W.heap[w.heap.size+1]? = some (.cells #[.int .i64 x.g,vx] 61 (0,0)):=(au.block _ (by omega) (by
    rintro(e | e)
    .omega
    have:=(F _ e).1;omega)).trans aR
   have z0:W.cell? ⟨w.heap.size+1,0,none⟩=some (.int .i64 x.g):=cell_of_row W _ 0 _ _ _ aj;have z1:W.cell? ⟨w.heap.size+1,1,none⟩=some vx:=cell_of_row W _ 1 _ _ _ aj;have y2:=q3.cell;have HI:=Hd hI;have bx:=Hd A;have aY:=Hd q3;have aS:=Hd ao;have al:=Hd (qy5 s x pre ⟨J,af⟩ (qb1 s x (l.take k)));have az:=Hd (qhb s (λy=>qat y.g && decide (qak y x=0)) aP ax);have E:=λX=>quu _ (qce s x pre (qb1 s x (l.take k))) s.es[J].t _ (qam W X) ((RSl.good qad.good).bel (A.sl qad.good (by decide)) (qa7 W X))
   have u:¬ (qat s.ls[V].g=true/\qak s.ls[V] x=0/\s.es[J].t∉qce s x pre (qb1 s x (l.take k)))->Hid (qce s x (pre++[⟨J,af⟩]) (qb1 s x (l.take k))=qce s x pre (qb1 s x (l.take k))):=λhn=>by
    show _=_;rw[al.out,qft,if_neg];rintro⟨h,h'⟩;rw[show s.es[(⟨J,af⟩:Fin s.es.length)]=s.es[J] from rfl,az.out]at h;simp only[Bool.and_eq_true,decide_eq_true_eq]at h;exact hn ⟨h.1,h.2,h'⟩
   clear hI A q3 h2 h3 h6 h7 h8 aG aF ba aI h1 au ao aj aM ai
   by_cases ak:qat s.ls[V].g=true
   case neg =>
    have hv:∀X,Calls Tryz.prog 176 #[.agg #[.int .i64 s.ls[V].g,vl]] (qam W X) λe w'=>e = .returned (.bool false)/\Ext (qam W X) w':=λX=>by have:=M X;rwa [eq_false_of_ne_true ak]at this
    have I:=u (λh=>ak h.1);clear E M G ak u
    gi_wp2_with fail
    (refine qds (by kernel_rfl) (by kernel_rfl) (by kernel_rfl) ?_;(repeat (first | go_big_quiet_step ((go_at_call 176;exact qbh (hv _))) | quiet_step ((go_at_call 176;exact qbh (hv _)))));refine wpQuiet_nil ?_)
    intro w4 d
    gi_wp2
    exact⟨qfu d _,Ext.kp d,HI.out.same d I.out⟩
   have hv:∀X,Calls Tryz.prog 176 #[.agg #[.int .i64 s.ls[V].g,vl]] (qam W X) λe w'=>e = .returned (.bool true)/\Ext (qam W X) w':=λX=>by have:=M X;rwa [ak]at this
   by_cases ac:qak s.ls[V] x=0
   case neg =>
    have I:=u (λh=>ac h.2.1);have bv:(qak s.ls[V] x == 0)=false:=beq_eq_false_iff_ne.2 ac;clear E M u ac
    gi_wp2_with fail
    (refine qds (by kernel_rfl) (by kernel_rfl) (by kernel_rfl) ?_;(repeat (first | go_big_quiet_step ((first | (go_at_call 176;exact qbh (hv _)) | (go_at_call 166;exact qaq (G _)))) | quiet_step ((first | (go_at_call 176;exact qbh (hv _)) | (go_at_call 166;exact qaq (G _))))));refine wpQuiet_nil ?_)
    intro w4 d
    gi_wp2
    exact⟨qfu d _,Ext.kp d,HI.out.same d I.out⟩
   have bv:(qak s.ls[V] x == 0)=true:=beq_iff_eq.2 ac
   by_cases L:s.es[J].t∈qce s x pre (qb1 s x (l.take k))
   .have N:∀X,Calls Tryz.prog 32 #[.slice A3 (qce s x pre (qb1 s x (l.take k))).length c3,.int .i64 s.es[J].t] (qam W X) λe w'=>e = .returned (.bool true)/\w'=qam W X:=λX=>by have:=E X;rwa [decide_eq_true L]at this
    have I:=u (λh=>h.2.2 L);clear E M u ac L
    gi_wp2_with fail
    (refine qds (by kernel_rfl) (by kernel_rfl) (by kernel_rfl) ?_;(repeat (first | go_big_quiet_step ((first | (go_at_call 176;exact qbh (hv _)) | (go_at_call 166;exact qaq (G _)) | (go_at_call 32;exact qbs (N _)))) | quiet_step ((first | (go_at_call 176;exact qbh (hv _)) | (go_at_call 166;exact qaq (G _)) | (go_at_call 32;exact qbs (N _))))));refine wpQuiet_nil ?_)
    intro w4 d
    gi_wp2
    exact⟨qfu d _,Ext.kp d,HI.out.same d I.out⟩
   have N:∀X,Calls Tryz.prog 32 #[.slice A3 (qce s x pre (qb1 s x (l.take k))).length c3,.int .i64 s.es[J].t] (qam W X) λe w'=>e = .returned (.bool false)/\w'=qam W X:=λX=>by have:=E X;rwa [decide_eq_false L]at this
   have a1:Hid (qce s x (pre++[⟨J,af⟩]) (qb1 s x (l.take k))=qce s x pre (qb1 s x (l.take k))++[s.es[J].t]):=by
    show _=_;rw[al.out,qft,if_pos ⟨by rw[show s.es[(⟨J,af⟩:Fin s.es.length)]=s.es[J] from rfl,az.out];simp[ak,ac],L⟩];rfl
   clear E M u ac L
   gi_wp2_with fail
   (refine qds (by kernel_rfl) (by kernel_rfl) (by kernel_rfl) ?_;(repeat (first | go_big_quiet_step ((first | (go_at_call 176;exact qbh (hv _)) | (go_at_call 166;exact qaq (G _)) | (go_at_call 32;exact qbs (N _)))) | quiet_step ((first | (go_at_call 176;exact qbh (hv _)) | (go_at_call 166;exact qaq (G _)) | (go_at_call 32;exact qbs (N _))))));refine wpQuiet_nil ?_)
   intro w4 d;obtain⟨i3,br,bs,bf,bp⟩:=info3;have q4:Boxed w4 (w.heap.size+2) 53 _:=((Ext.kp (S:=λ_=>True) d).block _ aY.out.lt trivial).trans aY.out;have r4:=bx.out.ext qad.good d;have aQ:=Hd r4;obtain⟨news,ag,aK⟩:=r4;obtain⟨rfl,bA⟩:=aK.ints;have y4:=q4.cell;have x4:=Ext.keep d x2;have bM:=d.size;have bC:=HI.out.bt.size;have aB:=Hd q4;clear aK q4 y1 y2 x1 x2 g1 gl bb z0 z1 N G hv
   gi_wp2_with (gi_at_builtin;refine qqc _ rfl _ _ 53 rfl (w.heap.size+3) 3 i3 (.int .i64 0) 1 8 Tryz.underlying53 br bs bf bp rfl (by decide) _ _ _ rfl (ag.alloc _) ⟨w4.heap.size,0,none⟩ 1 1 [.int .i64 s.es[J].t] rfl rfl (cell_one_new _ _ _) (by simp[Value.oneCell']) (by unfold maxLen;omega) (by omega) (by simp;omega) ?_;intro v5 w5 U O ay;obtain⟨g5,c5,rfl⟩:=ownsRow_succ U;have p5:=(qnt bA aE aB.out ag U O).1;have bN:=p5.cell;have bQ:=p5.frozen)
   rw[World.size_alloc]at ay;have bo:qel (w.heap.size+2) (w.heap.size+3) vk W0 (λpre=>qce s x pre (qb1 s x (l.take k))) pre w4:=HI.out.move d
   obtain⟨bg,bn⟩:=qsl aB.out aQ.out aE U O W0.heap.size (Z:=Z) (λq _ hq e=>by
    rcases e with e | e
    .exact aA q hq (.inl e)
    rcases aS.out with h0 | h0
    .exact aA q hq (.inr (h0 ▸ e))
    have:=h0 q e;have:=a4 q hq;omega)
   exact⟨(qfu d _).trans bg,(Ext.kp d).trans bn,bo.push aB.out aQ.out aS.out aE U O ay a1.out⟩
  case done =>
   rintro D ys W hD rfl hI a5;obtain⟨aL,q3,A,ao⟩:=hI.row;have HD:=Hd a5;have HQ:=Hd q3;have HW:=Hd A;have HI:=Hd hI;clear a5 q3 A hI
   gi_wp2
   have bU:=HI.out.bt.size;refine⟨⟨_,_,_,_,_,_,_,_,_,_,?calmP,rfl⟩,?calmM⟩
   case calmP =>
    have bB:Boxed W w.heap.size 111 (.pointer (some ⟨g,0,none⟩)):=(HI.out.bt.block _ aD.lt (by
     rintro(e | e)
     .exact absurd e (by omega)
     have:=(F _ e).1;omega)).trans aD
    have aj:W.heap[w.heap.size+1]? = some (.cells #[.int .i64 x.g,vx] 61 (0,0)):=(HI.out.bt.block _ (by omega) (by
     rintro(e | e)
     .omega
     have:=(F _ e).1;omega)).trans aR
    have bd:Ext w W:=Bt.new (hX.trans' ab) HI.out.bt λq _ hq=>by
     rcases hq with rfl | hq
     .omega
     have:=(F q hq).1;omega
    refine⟨k+1,aL,by go_num,by omega,bB,aj,HQ.out,?_,HM.out.cons (by omega) (by omega) HD.out λr h1 h2=>?_,bd⟩
    .rw [List.take_succ_eq_append_getElem aV,qw3];exact HW.out
    have h3:W0.heap[r]? = some (.deferred (some [])):=((Ext.kp (S:=λ_=>True) ab).block r h1 trivial).trans h2;refine(HI.out.bt.block r (by omega) ?_).trans h3;rintro(e | e)
    .subst e;rw[show W0.heap[w.heap.size+2]? = _ from aJ]at h3
     cases h3
    exact aW.not_def h3 e
   simp[intOf];omega
  rintro D c pre W _ _ h _;exact h.elim
 have aT:k=l.length:=by omega
 have be:=qpi s x (l.take k);have a0:(qb1 s x (l.take k)).length<=200000:=by have:=ap.2.2.2.1;omega
 have aw:qd0 s x l=qa4 s (qb1 s x (l.take k)):=by rw[qd0,aT,List.take_length]
 have HV:=Hd aw;have HO:=Hd aa;have HM:=Hd hM;obtain⟨Ak,ck,rfl,bW,bJ⟩:=(aa.sl qad.good (by decide)).val;have b2:w.heap.size+3<=wr.heap.size:=q2.lt;clear aa hM aw be aT
 gi_wp2_with fail
 refine⟨trivial,?_⟩
 gi_at_call 208
 refine(callsIn_wide.2 (qnx (λ_=>True) s ap g _ _ wr ((HS.out.mono λ_ _ _=>trivial).bel hX) ((RSl.good qad.good).mono (HO.out.sl qad.good (by decide)) λ_ _ _=>trivial) a0)).mono ?_;rintro e w2 ⟨v2,rfl,aH,a3⟩;have a2:=Hd aH;obtain⟨A2,c2,rfl,b0,bL⟩:=(aH.sl qad.good (by decide)).val;clear aH
 gi_wp2_with fail
 have bq:Marks (w.heap.size+3) ds w2:=HM.out.keep λr hr h=>((Ext.kp (S:=λ_=>True) a3).block r (Array.getElem?_eq_some_iff.1 h).1 trivial).trans h
 refine Marks.leave (by simp) bq λw3 aX=>?_
 refine⟨_,results_tmp rfl _ _ _,_,rfl,?_,?_⟩
 .rw [HV.out];exact(a2.out.bt qad.good aX λb _ hz=>⟨λh=>h,a2.out.not_def hz.2⟩).base (by omega)
 exact Bt.new (hX.trans' a3) aX λi _ hi=>by have:=hi.1;omega
end
end Go.Proofs.YtegenalcheooeaaGreat
