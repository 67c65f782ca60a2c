/- Of the proof of a law of the suites: RApp, RefGen2. -/
import Derived.Test.YtegenalcheooeaaGreatB19
import Derived.Test.YtegenalcheooeaaGreatB21
import Derived.Test.YtegenalcheooeaaGreatRM07
set_option linter.unusedSectionVars false
set_option linter.unusedSimpArgs false
set_option linter.unusedVariables false
namespace Go.Proofs.YtegenalcheooeaaGreat
open Go.RowKit
attribute [local go_sem] cell?_exto
section
open Go.Shelf
theorem pushN2 {α:Type} {R:Rdr α} {k:Nat} (hR:Good R k) (hk:0<k) (base:Nat) (e ts:TypeId) (z:Value) (bs:Nat) (hu:Tryz.prog.underlying ts=some (.slice e)) (hi:(Tryz.prog.info? e).map (fun i=>(i.zero,i.size,i.bytes))=some (some z,k,bs)) (hzs:z.cells.size=k) (hbs:bs<=1000)
  (T:Nat->Prop) (w:World) (xs ys:List α) (v u:Value) (hown:qab R k e base T w xs v) (hy:RSl R k (fun b=>T b∧v.ownBlock≠some b) w ys [u]) (hbase:base<=w.heap.size) (hl:xs.length+ys.length<=100000000) :
  ∃ A c w',(Builtin.append_ #[ts,ts] ts #[v,u]).run Tryz.prog w = .ok (.slice A (xs++ys).length c) w'∧qab R k e base T w' (xs++ys) (.slice A (xs++ys).length c)∧Bt (fun q=>v.ownBlock=some q) w w'∧∀ q,(Value.slice A (xs++ys).length c).ownBlock=some q->v.ownBlock=some q∨w.heap.size<=q:=by
 obtain ⟨i,hi,hzz⟩:=Option.map_eq_some_iff.1 hi
 simp only [Prod.mk.injEq] at hzz
 obtain ⟨hz0,hz1,hz2⟩:=hzz
 obtain ⟨A,c,hv,hc,hc0,h⟩:=hy
 injection hv with hv
 subst hv
 rcases A with _ | a
 ·have hys:ys=[]:=by
   rcases h with h | ⟨b,off,h,_⟩
   ·exact h
   ·cases h
  subst hys
  obtain ⟨A',c',rfl,_,_⟩:=(hown.sl hR hk).val
  rw [List.append_nil]
  refine ⟨A',c',w,?_,hown,Bt.refl _ _,fun q h=>.inl h⟩
  obtain ⟨news,hrow,_⟩:=hown
  rcases hrow.2 with ⟨h1,h2⟩ | ⟨g,cap,cur,h1,_,_,hnc,_⟩
  ·rw [h1]
   simp [Builtin.append_,run_underlying hu,sizeOf,typeInfo,hi,Builtin.lenOf,Builtin.firstCells]
  ·rw [h1]
   simp [Builtin.append_,run_underlying hu,sizeOf,typeInfo,hi,Builtin.lenOf,Builtin.firstCells,hnc,storeCells]
 ·obtain ⟨news,hrow,hF⟩:=hown
  obtain ⟨cs,hG,hcell⟩:∃ cs,Flat R k (fun b=>T b∧v.ownBlock≠some b) w ys cs∧∀ j u,cs[j]? = some u->w.cell? (a.add j)=some u:=by
   rcases h with rfl | ⟨b,off,ha,hb,hS,hr⟩
   ·exact ⟨[],rfl,fun j u h=>by simp at h⟩
   ·obtain ⟨cs,h1,h2⟩:=hr.flat
    injection ha with ha
    subst ha
    exact ⟨cs,h1,fun j u hj=>by rw [Addr.add_lit];exact h2 j u hj⟩
  obtain ⟨v',w',hr,h1,h2,_,h4⟩:=run_append_own_at (P:=Tryz.prog) w base ts ts e i z k bs hu hi hz0 hz1 hz2 hzs hk v xs.length news hrow a ys.length c cs hG.len hcell (hG.one hR)
   (by unfold maxLen;omega) (Nat.le_trans (Nat.mul_le_mul (show xs.length+ys.length<=100000000 from hl) hbs) (by decide)) hbase
  have hp:=qab.push hR hF hG h1 h2 h4
  obtain ⟨A',c',hv',_,_⟩:=(hp.sl hR hk).val
  subst hv'
  refine ⟨A',c',w',hr,hp,(Bt.of_grown h2).mono fun q _ h=>h.symm,fun q h=>?_⟩
  rcases h4 with h4 | h4
  ·exact .inl (h4.symm.trans h)
  ·have h5:some w.heap.size=some q:=h4.symm.trans h
   injection h5 with h5
   exact .inr (by omega)
theorem qnf (base:Nat) (T:Nat->Prop) (W:World) (tr:List Lb) (v0 vt:Value) (ho:qab RLb 2 61 base T W ([]:List Lb) v0) (ht:RSl RLb 2 (fun q=>T q∧v0.ownBlock≠some q) W tr [vt]) (hb:base<=W.heap.size) (hl:tr.length<=1000) :
  ∃ A c W',(Builtin.append_ #[22,22] 22 #[v0,vt]).run Tryz.prog W = .ok (.slice A tr.length c) W'∧qab RLb 2 61 base T W' tr (.slice A tr.length c)∧Bt (fun q=>v0.ownBlock=some q) W W'∧∀ q,(Value.slice A tr.length c).ownBlock=some q->v0.ownBlock=some q∨W.heap.size<=q:=by
 obtain ⟨A,c,W',h1,h2,h3,h4⟩:=pushN2 RLb.good (by decide) base 61 22 (.agg #[.int .i64 0,.slice none 0 0]) 32 Tryz.underlying22 qi9 rfl (by decide) T W [] tr v0 vt ho ht hb (by simp;omega)
 rw [List.nil_append] at h1 h2
 exact ⟨A,c,W',h1,h2,h3,h4⟩
theorem qnb (base:Nat) (T:Nat->Prop) (W:World) (tr:List Lb) (x:Lb) (v1 vx:Value) (ho:qab RLb 2 61 base T W tr v1) (hx:RSl RLb 2 (fun q=>T q∧v1.ownBlock≠some q) W [x] [vx]) (hb:base<=W.heap.size) (hl:tr.length<=1000) :
  ∃ A c W',(Builtin.append_ #[22,22] 22 #[v1,vx]).run Tryz.prog W = .ok (.slice A (tr.length+1) c) W'∧qab RLb 2 61 base T W' (tr++[x]) (.slice A (tr.length+1) c)∧Bt (fun q=>v1.ownBlock=some q) W W':=by
 obtain ⟨A,c,W',h1,h2,h3,h4⟩:=pushN2 RLb.good (by decide) base 61 22 (.agg #[.int .i64 0,.slice none 0 0]) 32 Tryz.underlying22 qi9 rfl (by decide) T W tr [x] v1 vx ho hx hb (by simp;omega)
 rw [show (tr++[x]).length=tr.length+1 by simp] at h1 h2
 exact ⟨A,c,W',h1,h2,h3⟩
theorem lit_lb {T S:Nat->Prop} {W:World} {x:Lb} {g:Int} {vl:Value} (hg:x.g=g) (hx:RLb S W x [.int .i64 g,vl]) (v:Value) (hS:∀ q,q<W.heap.size->S q->T q∧v.ownBlock≠some q) (hT:T W.heap.size) (hv:v.ownBlock≠some W.heap.size) :
  RSl RLb 2 (fun q=>(T q∧v.ownBlock≠some q)∧q<W.heap.size+1) (W.alloc (.cells #[.int .i64 g,vl] 61)) [x] [.slice (some ⟨W.heap.size,0,none⟩) 1 1]:=by
 subst hg
 refine ⟨_,1,rfl,by simp,by decide,.inr ⟨W.heap.size,0,rfl,by rw [World.size_alloc];omega,⟨⟨hT,hv⟩,by omega⟩,⟨[.int .i64 x.g,vl],rfl,?_,fun i u h=>by have:=qea W #[.int .i64 x.g,vl] 61 i u h;rwa [Addr.add_lit] at this⟩,trivial⟩⟩
 exact RLb.good.bel (RLb.good.mono hx fun q hq h=>⟨hS q hq h,by omega⟩) ((Ext.refl W).alloc _)
theorem qry {T:Nat->Prop} {W W':World} {x:Lb} {v0 v1 vx:Value} {n:Nat} (hx:RSl RLb 2 (fun q=>(T q∧v0.ownBlock≠some q)∧q<n) W [x] [vx]) (hb:Bt (fun q=>v0.ownBlock=some q) W W') (hv:∀ q,v1.ownBlock=some q->v0.ownBlock=some q∨W.heap.size<=q) (hn:n<=W.heap.size) :
  RSl RLb 2 (fun q=>T q∧v1.ownBlock≠some q) W' [x] [vx]:=by
 refine (RSl.good RLb.good).mono ((RSl.good RLb.good).move hx (hb.kp fun q _ h1 h2=>h1.1.2 h2)) fun q _ h=>⟨h.1.1,fun e=>?_⟩
 rcases hv q e with h' | h'
 ·exact h.1.2 h'
 ·omega
end
section
open Go.Shelf
set_option maxHeartbeats 32000000 in
set_option maxRecDepth 100000 in
theorem qvb (S:Nat->Prop) (s:Sy) (cs:List Value) (d:Int) (w:World) (hx:RSy S w s cs) :
  Calls Tryz.prog 21 #[.agg cs.toArray,.int .i64 d] w (qt1 RTe 2 (qa7 s d) (qcs s d) w):=by
 have hck:=fun W (hW:Ext w W)=>qhh S s cs W (RSy.good.bel hx hW)
 have hst:=fun (hok:qah s) n hn W (hW:Ext w W)=>qn0 (fun q=>q<w.heap.size) s hok cs n hn W (RSy.good.bel (RSy.good.mono hx fun _ h _=>h) hW)
 have hmv:=fun (hok:qah s) n hn bs hb u x cx W (hW:Ext w W) (hu:RSl qad 1 (fun _=>True) W bs [u]) (hc:RLb (fun _=>True) W x cx)=>qot (fun _=>True) s hok cs n hn bs hb u x cx W (RSy.good.bel (RSy.good.mono hx fun _ _ _=>trivial) hW) hu hc
 have hmu:=fun (hok:qah s) n hn bs hb vb W (hW:Ext w W) (hm:RSl qad 1 (fun _=>True) W bs [vb])=>qqs (fun _=>True) s hok cs n hn bs hb vb W (RSy.good.bel (RSy.good.mono hx fun _ _ _=>trivial) hW) hm
 have hla:=fun (m:List Int) (hr:∀ i∈m,0<=i∧i<s.ls.length) (hl:m.length<=100000) vm W (hW:Ext w W) (hm:RIs (fun _=>True) W m [vm])=>qs9 (fun q=>q<w.heap.size) (fun _=>True) s cs m vm W (RSy.good.bel (RSy.good.mono hx fun _ hq _=>hq) hW) hm hr hl
 obtain ⟨_,v1,u1,rfl,hv,hu⟩:=id hx
 obtain ⟨Al,cl,rfl,hcl1,hcl0⟩:=hv.val
 obtain ⟨Ae,ce,rfl,hce,hce0⟩:=hu.val
 have HLB:=Hd hv
 clear hx hv hu
 by_cases hok:qah s
 rotate_left
 ·have HE:Hid (qcs s d=8):=if_neg hok
  have HR:Hid (qa7 s d=[]):=if_neg fun h=>hok h.1
  rw [qd9 hok] at hck
  clear hst hmv hok hmu hla
  go_enter Tryz.func21,Tryz.ntmps21
  go_wp2_with fail
  refine (hck _ bel).mono ?_
  rintro e w1 ⟨rfl,h1⟩
  go_wp2_with fail
  go_ret2
  rw [HE.out,HR.out]
  exact ⟨none,0,rfl,qer _,bel⟩
 rw [qf5 hok] at hck
 by_cases hd0:d<0
 ·have HE:Hid (qcs s d=1):=by show _=_;rw [qcs,if_pos hok,if_neg fun h=>by omega]
  have HR:Hid (qa7 s d=[]):=if_neg fun h=>by omega
  clear hst hmv hok hmu hla
  go_enter Tryz.func21,Tryz.ntmps21
  go_wp2_with fail
  refine (hck _ bel).mono ?_
  rintro e w1 ⟨rfl,h1⟩
  go_wp2_with fail
  go_ret2
  rw [HE.out,HR.out]
  exact ⟨none,0,rfl,qer _,bel⟩
 by_cases hd8:8<d
 ·have HE:Hid (qcs s d=1):=by show _=_;rw [qcs,if_pos hok,if_neg fun h=>by omega]
  have HR:Hid (qa7 s d=[]):=if_neg fun h=>by omega
  clear hst hmv hok hmu hla
  go_enter Tryz.func21,Tryz.ntmps21
  go_wp2_with fail
  refine (hck _ bel).mono ?_
  rintro e w1 ⟨rfl,h1⟩
  go_wp2_with fail
  go_ret2
  rw [HE.out,HR.out]
  exact ⟨none,0,rfl,qer _,bel⟩
 obtain ⟨D,rfl⟩:∃ D:Nat,d=(D:Int):=⟨d.toNat,by omega⟩
 have hD:D<=8:=by omega
 have hn0:=hok.1
 have hn2:=hok.2.1
 have hll:=hok.2.2.1
 obtain ⟨n,hn⟩:∃ n:Nat,s.n=(n:Int):=⟨s.n.toNat,by omega⟩
 have hGE:qcs s (D:Int)=qe6 (qbl s D):=by rw [qcs,if_pos hok,if_pos (by omega),Int.toNat_natCast]
 have hGR:qa7 s (D:Int)=qa5 (qbl s D):=by rw [qa7,if_pos ⟨hok,by omega⟩,Int.toNat_natCast]
 have hq:=qwj s D
 obtain ⟨R,hR⟩:∃ R,qbl s D=R:=⟨_,rfl⟩
 rw [hR] at hGE hGR hq
 have HE:=Hd hGE
 have HR:=Hd hGR
 have HQ:=Hd hq
 have hstn:=fun W hW=>hst hok n hn W hW
 have HS0:Hid (qc1 s (bs0 n)=marksOf n (qaq s [0])):=qpv s n hn (by omega)
 have HMV:Hid (∀ (p:Pl) (x:Lb),qa3 x.g=true->∀ u cx W,Ext w W->RSl qad 1 (fun _=>True) W (marksOf n p.st) [u]->RLb (fun _=>True) W x cx->Calls Tryz.prog 91 #[.agg [Value.int .i64 (n:Int),.slice Al s.ls.length cl,.slice Ae s.es.length ce].toArray,u,.agg cx.toArray] W (qi6 n (marksOf n (qa9 s x p.st)) W)):=fun p x hvx u cx W hW hu hc=>by
  have h:=hmv hok n hn (marksOf n p.st) (qb2 _ _) u x cx W hW hu hc
  rw [hn] at h
  have e:qc1 s (marksOf n (mvL s x (marksOf n p.st) s.es.length))=marksOf n (qa9 s x p.st):=qqi hok hn p.st x hvx
  rw [e] at h
  exact h
 have HMU:Hid (∀ (p:Pl) vb W,Ext w W->RSl qad 1 (fun _=>True) W (marksOf n p.st) [vb]->Calls Tryz.prog 85 #[.agg [Value.int .i64 (n:Int),.slice Al s.ls.length cl,.slice Ae s.es.length ce].toArray,vb] W (qob (qec s n (marksOf n p.st)) W)):=fun p vb W hW hm=>by
  have h:=hmu hok n hn (marksOf n p.st) (qb2 _ _) vb W hW hm
  rw [hn] at h
  exact h
 have HMM:Hid (∀ p:Pl,SpOk s p->qbe s p.st=(qec s n (marksOf n p.st)).map (List.map (qal s))):=fun p hp=>qqk hok hn hp.ran hp.ris
 have HRN:Hid (∀ p:Pl,∀ m∈qa5 (qec s n (marksOf n p.st)),(∀ i∈m,0<=i∧i<s.ls.length)∧m.length<=64):=fun p m hm=>by
  have:=qtq hok n (marksOf n p.st) m hm
  exact ⟨this.1.ran,this.2⟩
 have HRW:Hid (∀ p:Pl,(qa5 (qec s n (marksOf n p.st))).length<=2000):=fun p=>qp0 n _
 have HLA:Hid (∀ m:List Int,(∀ i∈m,0<=i∧i<s.ls.length)->m.length<=100000->∀ vm W,Ext w W->RIs (fun _=>True) W m [vm]->Calls Tryz.prog 87 #[.agg [Value.int .i64 (n:Int),.slice Al s.ls.length cl,.slice Ae s.es.length ce].toArray,vm] W (qky (fun b=>b<w.heap.size∧b<W.heap.size) W.heap.size (qal s m) W)):=fun m h1 h2 vm W hW hm=>by
  have h:=hla m h1 h2 vm W hW hm
  rw [hn] at h
  exact h
 have HQOK:Hid (∀ p:Pl,∀ q∈qdk s D p,SpOk s q):=fun p=>qRow_ok hok hD p
 have HPA:Hid (∀ (p:Pl) (x:Lb),qa3 x.g=true->qby s p x=if (marksOf n (qa9 s x p.st)).any id=true then [⟨p.tr++[x],qa9 s x p.st⟩] else []):=fun p x hvx=>plOne_any hok hn p x hvx
 have HSTO:=Hd (start_ok hok)
 rw [hn] at hck hstn ⊢
 obtain ⟨W0,hW0⟩:∃ W0,w.alloc (.cells #[.int .i64 (n:Int),.slice Al s.ls.length cl,.slice Ae s.es.length ce] 25)=W0:=⟨_,rfl⟩
 have hE0:Ext w W0:=by rw [<- hW0];exact (Ext.refl w).alloc _
 have hB0:qag W0 w.heap.size 25 [.int .i64 (n:Int),.slice Al s.ls.length cl,.slice Ae s.es.length ce]:=by rw [<- hW0];exact qag.new w 25 _
 have hz0:W0.heap.size=w.heap.size+1:=by rw [<- hW0,World.size_alloc]
 have x0:=hB0.cell 0 _
 have x1:=hB0.cell 1 _
 have x2:=hB0.cell 2 _
 have xz:=hB0.lt
 have HB0:=Hd hB0
 have HE0:=Hd hE0
 have HW0:=Hd hW0
 have HZ0:=Hd hz0
 have hc0:=hck W0 hE0
 obtain ⟨p0,hp0⟩:∃ p0,w.heap.size=p0:=⟨_,rfl⟩
 have HP0:=Hd hp0
 rw [hp0] at HB0 x0 x1 x2 xz
 clear hok hn hst hmv hmu hla hn0 hW0 hB0 hE0 hck hp0 hGE hGR hq hR hz0 hn2
 go_enter Tryz.func21,Tryz.ntmps21
 go_upto_region 1 with (fail)
 rw [HW0.out,HP0.out]
 go_wp2_with fail
 refine hc0.mono ?_
 rintro e w1 ⟨rfl,h1⟩
 have hE1:=HE0.out.trans' h1
 have hB1:=HB0.out.ext h1
 clear x0 x1 x2 xz
 have x0:=hB1.cell 0 _
 have x1:=hB1.cell 1 _
 have x2:=hB1.cell 2 _
 have xz:=hB1.lt
 have hst1:=hstn w1 hE1
 clear hstn hc0
 go_wp2_with fail
 refine hst1.mono ?_
 rintro e w2 ⟨A2,c2,rfl,ho2,h2⟩
 have hE2:=hE1.trans' h2
 have HB2:=Hd (hB1.ext h2)
 rw [HS0.out] at ho2
 obtain ⟨W3,hW3⟩:∃ W3,w2.alloc (.cells #[.slice none 0 0,.slice A2 n c2] 124)=W3:=⟨_,rfl⟩
 have hE3:Ext w2 W3:=by rw [<- hW3];exact (Ext.refl w2).alloc _
 have hSP:qab (RSp n) 2 124 W0.heap.size (fun _=>True) W3 [⟨[],qaq s [0]⟩] (.slice (some ⟨w2.heap.size,0,none⟩) 1 1):=by
  rw [<- hW3]
  refine ⟨[.slice none 0 0,.slice A2 n c2],?_,Flat.single ⟨_,_,rfl,qer _,?_⟩ rfl⟩
  ·exact World.ownsRow_lit w2 #[.slice none 0 0,.slice A2 n c2] 1 (Nat.le_trans h1.size h2.size) (by unfold maxLen;omega) rfl
  ·refine (RSl.good qad.good).bel ((RSl.good qad.good).mono (ho2.sl qad.good (by decide)) fun q hq _=>⟨trivial,?_⟩) ((Ext.refl w2).alloc _)
   simp [Value.ownBlock]
   omega
 have HSP:=Hd hSP
 have HE3:=Hd (hE2.trans' hE3)
 have HE03:Hid (Ext W0 W3):=(h1.trans' h2).trans' hE3
 have HB3:=Hd (HB2.out.ext hE3)
 have HW3:=Hd hW3
 clear hB1 x0 x1 x2 xz ho2 hE1 hE2 hE3 hSP hW3 h1 hst1
 go_wp2_with fail
 rw [HW3.out]
 have HSP1:=Hd (HSP.out.mono (RSp.good n) (T':=fun b=>ob none≠some b) fun b _ _ h=>by cases h)
 have HD0:Hid (∀ q,ob (some ⟨w2.heap.size,0,none⟩)=some q->ob none≠some q):=fun q _ h=>by cases h
 have HK0:Hid (∀ p∈[(⟨[],qaq s [0]⟩:Pl)],SpOk s p):=fun p hp=>by rw [List.mem_singleton.1 hp];exact HSTO.out
 clear HSP
 go_loopw [6,7,8] (fun v6 v7 vi wr=>∃ (i:Nat) (sp:List Pl) (ot:List Te) (As:Option Addr) (c6:Nat) (Ao:Option Addr) (c7:Nat),i<=sp.length∧vi = .int .i64 i∧v6 = .slice As sp.length c6∧v7 = .slice Ao ot.length c7∧sp.length<=4000∧ot.length<=4000∧Ext W0 wr∧Hid (qab (RSp n) 2 124 W0.heap.size (fun b=>ob Ao≠some b) wr sp (.slice As sp.length c6))∧Hid (qab RTe 2 40 W0.heap.size (fun b=>ob As≠some b) wr ot (.slice Ao ot.length c7))∧Hid (∀ q,ob As=some q->ob Ao≠some q)∧Hid (∀ p∈sp,SpOk s p)∧Hid (qGo s D (4000-i) (sp.drop i) sp.length ot=R)) (fun _ _ vi _=>4001-(intOf vi).toNat)
 case atStart=>exact ⟨0,[⟨[],qaq s [0]⟩],[],some ⟨w2.heap.size,0,none⟩,1,none,0,Nat.zero_le _,rfl,rfl,rfl,by simp,by simp,HE03.out,HSP1.out,qab.nil ..,HD0.out,HK0.out,HQ.out⟩
 case round =>
  obtain ⟨i,sp,ot,As,c6,Ao,c7,hi,rfl,rfl,rfl,hsl,hol,hE,hS,hO,hDis,hOK,hRR⟩:=hrel
  have hE':=HE0.out.trans' hE
  by_cases hil:i<sp.length
  rotate_left
  ·obtain rfl:i=sp.length:=by omega
   have HF:Hid (R=some ot):=by
    show _=_
    rw [<- hRR.out,List.drop_length]
    cases 4000-sp.length <;> rfl
   have HOo:=Hd ((RSl.good RTe.good).mono (hO.out.sl RTe.good (by decide)) (S':=fun _=>True) fun _ _ _=>trivial)
   go_wp2_with fail
   go_ret2
   rw [HE.out,HR.out,HF.out]
   exact ⟨Ao,c7,rfl,HOo.out,hE'⟩
  have hbx:=HB0.out.ext hE
  have x0:=hbx.cell 0 _
  have x1:=hbx.cell 1 _
  have x2:=hbx.cell 2 _
  have xz:=hbx.lt
  clear hbx
  obtain ⟨b,off,ccs,hA,hb,_,hr,hcell⟩:=hS.out.slx.get i hil
  subst hA
  have hpok:=hOK.out _ (List.getElem_mem hil)
  have hqq:qGo s D (4000-i) (sp[i] :: sp.drop (i+1)) sp.length ot=R:=by rw [<- hRR.out,List.drop_eq_getElem_cons hil]
  rw [show 4000-i=(3999-i)+1 by omega,qGo] at hqq
  obtain ⟨p,hp⟩:∃ p,sp[i]=p:=⟨_,rfl⟩
  rw [hp] at hr hpok hqq
  have HP:=Hd hp
  obtain ⟨v,u,rfl,htr,hmk⟩:=hr
  obtain ⟨At,ct,rfl,hct,hct0⟩:=htr.val
  obtain ⟨Am,cm,rfl,hcm,hcm0⟩:=hmk.val
  rw [qb2] at hmk hcell hcm
  have g1:=hcell.get 1 _
  have HG0:=Hd (hcell.get 0 _)
  have z1:(0:Int)<=(i:Int):=by omega
  have z2:(i:Int)<(sp.length:Int):=by omega
  have hi1:i+1<=sp.length:=hil
  have hbo:b≠p0:=fun e=>by
   have h1:=(hS.out.own_lt (b:=b) rfl).1
   have h2:=HB0.out.lt
   omega
  have HTR:=Hd htr
  have HMK:=Hd hmk
  have hmu:=fun W (hW:Ext wr W)=>HMU.out p _ W (hE'.trans' hW) ((RSl.good qad.good).bel ((RSl.good qad.good).mono hmk fun _ _ _=>trivial) hW)
  have hmm:=HMM.out p hpok
  have hrn:=HRN.out p
  have hrw:=HRW.out p
  obtain ⟨MM,hMM⟩:∃ MM,qec s n (marksOf n p.st)=MM:=⟨_,rfl⟩
  rw [hMM] at hmu hmm hrn hrw
  rw [hmm] at hqq
  have HQQ:=Hd hqq
  have hplen:=hpok.len
  obtain ⟨w7,rfl⟩:∃ w7,w7=wr:=⟨_,rfl⟩
  clear hcell htr hmk hp hMM hmm hqq hRR hpok hct hcm
  cases MM with
  | none =>
   have HF:Hid (R=none):=HQQ.out.symm
   have hmu':∀ W,Ext w7 W->Calls Tryz.prog 85 #[.agg [Value.int .i64 (n:Int),.slice Al s.ls.length cl,.slice Ae s.es.length ce].toArray,.slice Am n cm] W fun e w'=>∃ A c,e = .returned (.tuple #[.slice A 0 c,.bool false])∧RSl RIs 1 (fun b=>W.heap.size<=b) w' [] [.slice A 0 c]∧Ext W w':=hmu
   clear HQQ hmu
   go_wp2_with fail
   go_region_held3 (fun W=>W.cell? ⟨p0,0,none⟩=some (.int .i64 (n:Int))∧W.cell? ⟨p0,1,none⟩=some (.slice Al s.ls.length cl)∧W.cell? ⟨p0,2,none⟩=some (.slice Ae s.es.length ce)∧W.cell? ⟨b,off+i*2+1,none⟩=some (.slice Am n cm))
    (first | (refine ⟨?_,?_,?_,?_⟩ <;> go_simp <;> done) | exact Ext.k4 hx1 (by assumption) | exact Ext.k4 (qaf.ext hx1) (by assumption) | exact Ext.k4 ((Ext.refl _).alloc _) (by assumption))
    (first | (go_at_call 85;refine (hmu' _ bel).mono ?_;rintro e w5 ⟨A5,c5,rfl,hs5,hx1⟩))
   have hx5:Ext w7 w5:=Ext.trans' (Below.drew (Ext.refl _)) hx1
   go_wp2_with fail
   go_ret2
   rw [HE.out,HR.out,HF.out]
   exact ⟨none,0,rfl,qer _,hE'.trans' hx5⟩
  | some L =>
  have hmu':∀ W,Ext w7 W->Calls Tryz.prog 85 #[.agg [Value.int .i64 (n:Int),.slice Al s.ls.length cl,.slice Ae s.es.length ce].toArray,.slice Am n cm] W fun e w'=>∃ A c,e = .returned (.tuple #[.slice A L.length c,.bool true])∧RSl RIs 1 (fun b=>W.heap.size<=b) w' L [.slice A L.length c]∧Ext W w':=hmu
  clear hmu
  go_wp2_with fail
  go_region_held3 (fun W=>W.cell? ⟨p0,0,none⟩=some (.int .i64 (n:Int))∧W.cell? ⟨p0,1,none⟩=some (.slice Al s.ls.length cl)∧W.cell? ⟨p0,2,none⟩=some (.slice Ae s.es.length ce)∧W.cell? ⟨b,off+i*2+1,none⟩=some (.slice Am n cm))
   (first | (refine ⟨?_,?_,?_,?_⟩ <;> go_simp <;> done) | exact Ext.k4 hx1 (by assumption) | exact Ext.k4 (qaf.ext hx1) (by assumption) | exact Ext.k4 ((Ext.refl _).alloc _) (by assumption))
   (first | (go_at_call 85;refine (hmu' _ bel).mono ?_;rintro e w5 ⟨A5,c5,rfl,hs5,hx1⟩))
  have hx5:Ext w7 w5:=Ext.trans' (Below.drew (Ext.refl _)) hx1
  have HS5:Hid (RSl RIs 1 (fun q=>w7.heap.size<=q) w5 L [.slice A5 L.length c5]):=RSl.good RIs.good |>.mono hs5 (S':=fun q=>w7.heap.size<=q) fun q _ h=>h
  clear hs5 hmu' x0 x1 x2 xz g1 hx1
  have HQ2:Hid ((if 4000<(ot++L.map (fun m=>Te.mk p.tr (qal s m))).length∨4000<sp.length+(qdk s D p).length then none else qGo s D (3999-i) (sp.drop (i+1)++qdk s D p) (sp.length+(qdk s D p).length) (ot++L.map (fun m=>Te.mk p.tr (qal s m))))=R):=by
   have h:=HQQ.out
   simp only [Option.map_some,List.map_map] at h
   exact h
  replace hrn:∀ m∈L,(∀ i∈m,0<=i∧i<s.ls.length)∧m.length<=64:=hrn
  replace hrw:L.length<=2000:=hrw
  have HRL:=Hd fun k (hk:k<L.length)=>hrn _ (List.getElem_mem hk)
  clear HQQ hrn
  have HAo:Hid (∀ q,ob Ao=some q->W0.heap.size<=q∧q<w7.heap.size):=fun q h=>hO.out.obl h
  have HBs:Hid (W0.heap.size<=b∧b<w7.heap.size):=hS.out.own_lt (b:=b) rfl
  have HE5:Hid (Ext W0 w5):=hE.trans' hx5
  have HS7:=Hd ((hS.out.ext (RSp.good n) hx5).mono (RSp.good n) (T':=fun q=>ob Ao≠some q∧q<w5.heap.size) fun q hq h=>⟨h,hq⟩)
  have HO7:=Hd (hO.out.ext RTe.good hx5)
  have HTR5:Hid (qaa (fun q=>(ob Ao≠some q∧q≠b)∧q<w5.heap.size) w5 p.tr [.slice At p.tr.length ct]):=qaa.good.mono (qaa.good.bel HTR.out hx5) fun q hq h=>⟨⟨h.1,fun e=>h.2 (by rw [e];rfl)⟩,hq⟩
  have HG5:=Hd (Ext.keep hx5 HG0.out)
  have HDB:Hid (ob Ao≠some b):=hDis.out b rfl
  clear hO hS HTR HMK HG0 hE hE' hDis
  go_wp2_with fail
  go_loopw [7,11] (fun v7 vk wr2=>∃ (k:Nat) (Ax:Option Addr) (cx:Nat),k<=L.length∧vk = .int .i64 k∧v7 = .slice Ax (ot.length+k) cx∧Bt (fun q=>ob Ao=some q) w5 wr2∧Hid (∀ q,ob Ax=some q->ob Ao=some q∨w5.heap.size<=q)∧Hid (qab RTe 2 40 W0.heap.size (fun q=>ob (some ⟨b,off,none⟩)≠some q) wr2 (ot++(L.take k).map (fun m=>Te.mk p.tr (qal s m))) (.slice Ax (ot.length+k) cx))) (fun _ vk _=>L.length-(intOf vk).toNat)
  case atStart=>exact ⟨0,Ao,c7,Nat.zero_le _,rfl,rfl,Bt.refl _ _,fun q h=>.inl h,by rw [List.take_zero,List.map_nil,List.append_nil];exact HO7.out⟩
  case round =>
   obtain ⟨k,Ax,cx,hk,rfl,rfl,hbt,hAX,hOX⟩:=hrel
   have hEr:Ext W0 wr:=Bt.new HE5.out hbt fun q _ h=>(HAo.out q h).1
   have hEw:=HE0.out.trans' hEr
   have hbx:=HB0.out.ext hEr
   have x0:=hbx.cell 0 _
   have x1:=hbx.cell 1 _
   have x2:=hbx.cell 2 _
   have xz:=hbx.lt
   clear hbx
   have g0:=hbt.cell HG5.out HDB.out
   have hbr:b<wr.heap.size:=by have:=HBs.out;have:=hx5.size;have:=hbt.size;omega
   have u1:(0:Int)<=(k:Int):=by omega
   by_cases hkl:k<L.length
   ·have HSr:RSl RIs 1 (fun q=>w7.heap.size<=q) wr L [.slice A5 L.length c5]:=(RSl.good RIs.good).move HS5.out (hbt.kp fun q _ h1 h2=>by have:=(HAo.out q h2).2;omega)
    obtain ⟨bL,oL,csL,hA5,hbL5,hLs,_,hrk,hcellk⟩:=HS5.out.get k hkl
    obtain ⟨bL',oL',csL',hA5',hbL,_,_,hrk',hcellk'⟩:=HSr.get k hkl
    subst hA5
    simp only [Option.some.injEq,Addr.mk.injEq,and_true] at hA5'
    obtain ⟨rfl,rfl⟩:=hA5'
    obtain ⟨Ak,ck,rfl,hck,hck0⟩:=id hrk'
    have lk:=(by simpa using hcellk'.get 0 _:wr.cell? ⟨bL,oL+k,none⟩=some (.slice Ak (L[k]).length ck))
    have hlab:=fun W (hW:Ext wr W)=>HLA.out L[k] (HRL.out k hkl).1 (by have:=(HRL.out k hkl).2;omega) _ W (hEw.trans' hW) (RIs.good.bel (RIs.good.mono hrk' fun _ _ _=>trivial) hW)
    have htk:=te_take s p.tr L hkl
    have htl:(ot++(L.take k).map (fun m=>Te.mk p.tr (qal s m))).length=ot.length+k:=by rw [List.length_append,List.length_map,List.length_take];omega
    have hk1:k+1<=L.length:=hkl
    have u2:(k:Int)<(L.length:Int):=by omega
    obtain ⟨nk,hnk⟩:∃ nk,(L[k]).length=nk:=⟨_,rfl⟩
    rw [hnk] at lk hlab
    obtain ⟨y,hy⟩:∃ y,qal s L[k]=y:=⟨_,rfl⟩
    rw [hy] at hlab htk
    have hlo:∀ q,ob Ax=some q->W0.heap.size<=q∧q<wr.heap.size:=fun q e=>hOX.out.obl e
    have HLO:=Hd hlo
    have hn1:¬ (Value.slice Ax (ot.length+k) cx).ownBlock=some p0:=fun e=>by rw [qf1] at e;have:=(hlo _ e).1;have:=HB0.out.lt;omega
    have hn2:¬ (Value.slice Ax (ot.length+k) cx).ownBlock=some b:=fun e=>by
     rw [qf1] at e
     rcases hAX.out b e with h | h
     ·exact HDB.out h
     ·have:=HBs.out;have:=hx5.size;omega
    have hn3:¬ (Value.slice Ax (ot.length+k) cx).ownBlock=some bL:=fun e=>by
     rw [qf1] at e
     rcases hAX.out bL e with h | h
     ·have:=(HAo.out bL h).2;omega
     ·omega
    have htrw:qaa (fun q=>(ob Ao≠some q∧q≠b)∧q<w5.heap.size) wr p.tr [.slice At p.tr.length ct]:=qaa.good.move HTR5.out (hbt.kp fun q _ h1 h2=>h1.1.1 h2)
    have HTRW:Hid (qaa (fun q=>ob (some ⟨b,off,none⟩)≠some q∧(Value.slice Ax (ot.length+k) cx).ownBlock≠some q) wr p.tr [.slice At p.tr.length ct]):=qaa.good.mono htrw fun q _ h=>⟨fun e=>h.1.2 (by have h:some b=some q:=e;injection h with h;exact h.symm),fun e=>by
     rw [qf1] at e
     rcases hAX.out q e with h' | h'
     ·exact h.1.1 h'
     ·omega⟩
    clear hrk hrk' hcellk hcellk' hnk hy hck hlo HSr htrw hLs hbL5
    go_wp2_with fail
    refine qft (fun W=>W.cell? ⟨p0,0,none⟩=some (.int .i64 (n:Int))∧W.cell? ⟨p0,1,none⟩=some (.slice Al s.ls.length cl)∧W.cell? ⟨p0,2,none⟩=some (.slice Ae s.es.length ce)∧W.cell? ⟨b,off+i*2,none⟩=some (.slice At p.tr.length ct)∧W.cell? ⟨bL,oL+k,none⟩=some (.slice Ak nk ck)) (by kernel_rfl) (by rfl) (by kernel_rfl) ⟨x0,x1,x2,g0,lk⟩ (fun hHeld=>?_)
    dsimp only [List.dropLast,List.getLastD,List.getLast?,List.getLast]
    obtain ⟨Wd,hWd⟩:∃ Wd,wr.drew=Wd:=⟨_,rfl⟩
    have hXd:Ext wr Wd:=hWd ▸ Below.drew (Ext.refl _)
    rw [hWd] at hHeld ⊢
    clear hWd x0 x1 x2 g0 lk
    (refine tk 0 ?_;try simp only [qae])
    (refine tk 1 ?_;try simp only [qae])
    (refine tk 2 ?_;try simp only [qae])
    (refine tk 3 ?_;try simp only [qae])
    (refine tk 4 ?_;try simp only [qae])
    (refine tk 5 ?_;try simp only [qae])
    (refine tk 6 ?_;try simp only [qae])
    (refine tk 7 ?_;try simp only [qae])
    (refine tk 8 ?_;try simp only [qae])
    (refine tk 9 ?_;try simp only [qae])
    (refine tk 10 ?_;try simp only [qae])
    refine wpAnyH_ready (rs:=[11]) (by kernel_rfl) (by simp) ?_
    refine AllReadyH.cons rfl (fun K hK=>?_) AllReadyH.nil
    go_simp
    refine (hlab _ hXd).mono ?_
    rintro e w6 ⟨A6,c6,rfl,ho6,hx6⟩
    have hX6:=hXd.trans' hx6
    have hre:RTe (fun q=>ob (some ⟨b,off,none⟩)≠some q∧(Value.slice Ax (ot.length+k) cx).ownBlock≠some q) w6 (Te.mk p.tr y) [.slice At p.tr.length ct,.slice A6 y.length c6]:=by
     refine ⟨_,_,rfl,qaa.good.bel HTRW.out hX6,qaa.good.mono (ho6.sl RLb.good (by decide)) fun q _ hq=>⟨fun e=>?_,fun e=>?_⟩⟩
     ·have e':b=q:=by have h:some b=some q:=e;injection h
      have h1:=HBs.out
      have h2:=hx5.size
      have h3:=hXd.size
      have h4:=HE0.out.size
      have h5:=hbt.size
      rcases hq with h | h <;> omega
     ·rw [qf1] at e
      have h1:=HLO.out q e
      have h3:=hXd.size
      have h4:=HE0.out.size
      rcases hq with h | h <;> omega
    obtain ⟨g8,c8,w8,hr8,ho8,hb8,ha8,hbA⟩:=qct RTe.good (by decide) W0.heap.size 40 34 (.agg #[.slice none 0 0,.slice none 0 0]) 48 Tryz.underlying34 info40 rfl (by decide) (fun q=>ob (some ⟨b,off,none⟩)≠some q) w6 (ot++(L.take k).map (fun m=>Te.mk p.tr (qal s m))) (.slice Ax (ot.length+k) cx) (Te.mk p.tr y) [.slice At p.tr.length ct,.slice A6 y.length c6]
     (hOX.out.ext RTe.good hX6) hre (Nat.le_trans hEr.size hX6.size) (by omega)
    rw [htl] at hr8 ho8
    rw [List.append_assoc,<- htk] at ho8
    have HO8:=Hd ho8
    have HB8:Hid (Bt (fun q=>ob Ao=some q) w5 w8):=by
     refine (((hbt.ext hX6).mono (Z':=fun q=>ob Ao=some q∨ob Ax=some q) fun q _ h=>.inl h).trans (hb8.mono fun q _ h=>.inr ((qf1 ..).symm.trans h))).mono fun q hq h=>?_
     rcases h with h | h
     ·exact h
     ·rcases hAX.out q h with h | h
      ·exact h
      ·omega
    have HAX8:Hid (∀ q,ob (some ⟨g8,0,none⟩)=some q->ob Ao=some q∨w5.heap.size<=q):=fun q e=>by
     have e':g8=q:=by have h:some g8=some q:=e;injection h
     subst e'
     rcases ha8 with h | h
     ·exact hAX.out _ ((qf1 ..).symm.trans h)
     ·have h1:=hbt.size
      have h2:=hX6.size
      exact .inr (by omega)
    have HRUN:=Hd hr8
    clear hr8 ho8 hb8 htk htl hOX hre ha8
    refine hK.out _ _ (Ext.k5 hx6 hHeld) (fun hHeld5=>?_)
    clear hK K
    try simp only [qae]
    (refine tk 12 ?_;try simp only [qae])
    refine wpAnyH_ready (rs:=[13]) (by kernel_rfl) (by simp) ?_
    refine AllReadyH.cons rfl (fun K hK=>?_) AllReadyH.nil
    go_simp
    have hHeld6:=Ext.k5 ((Ext.refl w6).alloc (.cells #[.slice At p.tr.length ct,.slice A6 y.length c6] 40)) hHeld5
    refine hK.out _ _ hHeld6 (fun _=>?_)
    clear hK K
    try simp only [qae]
    refine wpAnyH_ready (rs:=[14]) (by kernel_rfl) (by simp) ?_
    refine AllReadyH.cons rfl (fun K hK=>?_) AllReadyH.nil
    refine qdu rfl _ _ _ rfl _ _ _ rfl rfl HRUN.out ?_
    refine hK.out _ _ ⟨hbA.cell hHeld6.1 hn1,hbA.cell hHeld6.2.1 hn1,hbA.cell hHeld6.2.2.1 hn1,hbA.cell hHeld6.2.2.2.1 hn2,hbA.cell hHeld6.2.2.2.2 hn3⟩ (fun hHeld8=>?_)
    clear hK K
    try simp only [qae]
    refine wpAnyH_done (by kernel_rfl) ?_ _
    show Oper.wp _ _ _ _ _ _
    go_simp
    clear hHeld hHeld5 hHeld6 hHeld8 hbA
    go_wp2_with fail
    go_roundw
    case rel=>exact ⟨k+1,some ⟨g8,0,none⟩,c8,hk1,by go_num,rfl,HB8.out,HAX8.out,HO8.out⟩
    case measure=>simp [intOf];omega
   obtain rfl:k=L.length:=by omega
   have HS9:=Hd ((HS7.out.bt (RSp.good n) hbt fun q _ h=>⟨fun h'=>h'.1 h,fun e=>HDB.out (by have h2:some b=some q:=e;rw [h2];exact h)⟩).mono (RSp.good n) (T':=fun q=>ob Ax≠some q) fun q _ h e=>by
    rcases hAX.out q e with h' | h'
    ·exact h.1 h'
    ·have:=h.2;omega)
   have HO9:Hid (qab RTe 2 40 W0.heap.size (fun q=>ob (some ⟨b,off,none⟩)≠some q) wr (ot++L.map (fun m=>Te.mk p.tr (qal s m))) (.slice Ax (ot.length+L.length) cx)):=by have h:=hOX.out;rw [List.take_length] at h;exact h
   have HD9:Hid (∀ q,ob (some ⟨b,off,none⟩)=some q->ob Ax≠some q):=fun q e e'=>by
    have e2:b=q:=by have h2:some b=some q:=e;injection h2
    subst e2
    rcases hAX.out _ e' with h | h
    ·exact HDB.out h
    ·have:=HBs.out;have:=hx5.size;omega
   have hotl:(ot++L.map (fun m=>Te.mk p.tr (qal s m))).length=ot.length+L.length:=by rw [List.length_append,List.length_map]
   obtain ⟨ot2,hot2⟩:∃ ot2,ot++L.map (fun m=>Te.mk p.tr (qal s m))=ot2:=⟨_,rfl⟩
   rw [hot2] at HO9 HQ2 hotl
   have HOL:=Hd hotl
   have hspc:sp++(if p.tr.length<D then (s.ls.take 0).flatMap (qby s p) else [])=sp:=by rw [List.take_zero];split <;> simp
   have HSPC:=Hd hspc
   obtain ⟨w9,rfl⟩:∃ w9,w9=wr:=⟨_,rfl⟩
   have HE9:=Hd hEr
   obtain ⟨ml,hml⟩:∃ ml,s.ls.length=ml:=⟨_,rfl⟩
   have HML:=Hd hml
   have hml4:ml<=4000:=by omega
   have hol2:ot.length+L.length<=8000:=by omega
   clear hOX hot2 hotl hbt hAX hbr hspc g0 hml HS7 HO7 HTR5 HG5 HDB
   obtain ⟨c9,hc9⟩:∃ c9,cx=c9:=⟨_,rfl⟩
   rw [hc9] at HO9
   rw [hc9]
   clear hc9
   rw [HML.out] at x1
   go_wp2_with fail
   clear x0 x1 x2 xz
   go_loopw [6,12] (fun v6 vk wr3=>∃ (k:Nat) (sp3:List Pl) (Ay:Option Addr) (cy:Nat),k<=ml∧vk = .int .i64 k∧v6 = .slice Ay sp3.length cy∧sp3.length<=sp.length+k∧sp.length<=sp3.length∧Ext W0 wr3∧Hid (sp3=sp++if p.tr.length<D then (s.ls.take k).flatMap (qby s p) else [])∧Hid (qab (RSp n) 2 124 W0.heap.size (fun q=>ob Ax≠some q) wr3 sp3 (.slice Ay sp3.length cy))∧Hid (qab RTe 2 40 W0.heap.size (fun q=>ob Ay≠some q) wr3 ot2 (.slice Ax (ot.length+L.length) c9))∧Hid (∀ q,ob Ay=some q->ob Ax≠some q)) (fun _ vk _=>ml-(intOf vk).toNat)
   case atStart=>exact ⟨0,sp,some ⟨b,off,none⟩,c6,Nat.zero_le _,rfl,rfl,Nat.le_refl _,Nat.le_refl _,HE9.out,HSPC.out.symm,HS9.out,HO9.out,HD9.out⟩
   case round =>
    clear HS9 HO9 HD9 HSPC hEr hEw
    obtain ⟨k,sp3,Ay,cy,hk,rfl,rfl,hs3a,hs3b,hEr,hSP3,hS3,hO3,hD3⟩:=hrel
    have hEw:=HE0.out.trans' hEr
    have hbx:=HB0.out.ext hEr
    have x0:=hbx.cell 0 _
    have x1:=hbx.cell 1 _
    have x2:=hbx.cell 2 _
    have xz:=hbx.lt
    rw [HML.out] at x1
    clear hbx
    have hi3:i<sp3.length:=by omega
    have hpi:sp3[i]=p:=by
     have h:=hSP3.out
     subst h
     rw [List.getElem_append_left hil]
     exact HP.out
    obtain ⟨b3,off3,ccs3,hA3,hb3,_,hr3,hcell3⟩:=hS3.out.slx.get i hi3
    subst hA3
    rw [hpi] at hr3
    obtain ⟨v3,u3,rfl,htr3,hmk3⟩:=hr3
    obtain ⟨At3,ct3,rfl,_,_⟩:=htr3.val
    obtain ⟨Am3,cm3,rfl,hcm3,_⟩:=hmk3.val
    rw [qb2] at hmk3 hcell3
    have g0:=hcell3.get 0 _
    have g1:=hcell3.get 1 _
    simp only [Nat.add_zero] at g0
    have HTT:=Hd htr3
    have HMM3:=Hd hmk3
    have z3:(0:Int)<=(k:Int):=by omega
    have z4:(i:Int)<(sp3.length:Int):=by omega
    clear htr3 hmk3 hcell3 hpi
    by_cases hkm:k<ml
    case' pos =>
     have z5:(k:Int)<(ml:Int):=by omega
     by_cases hpd:(p.tr.length:Int)<(D:Int)
     case pos =>
      have hks:k<s.ls.length:=by have:=HML.out;omega
      have hk1:k+1<=ml:=hkm
      obtain ⟨bl,ol,cl2,hAl,hblw,_,_,hrl,hcl2⟩:=HLB.out.get k hks
      subst hAl
      have hrl2:RLb (fun q=>q<w.heap.size) w s.ls[k] cl2:=RLb.good.mono hrl fun q hq _=>hq
      obtain ⟨_,vl,rfl,hvl⟩:=id hrl
      have l0:=Ext.keep hEw (hcl2.get 0 _)
      have l1:=Ext.keep hEw (hcl2.get 1 _)
      simp only [Nat.add_zero] at l0
      have hblr:bl<wr.heap.size:=Nat.lt_of_lt_of_le hblw hEw.size
      have hplr:=qv3 s p k hks
      have hpa:=HPA.out p s.ls[k]
      have hpn:=plOne_no (s:=s) (p:=p) (x:=s.ls[k])
      obtain ⟨x,hxx⟩:∃ x,s.ls[k]=x:=⟨_,rfl⟩
      rw [hxx] at l0 hrl2 hplr hpa hpn
      obtain ⟨gx,hgx⟩:∃ gx,x.g=gx:=⟨_,rfl⟩
      rw [hgx] at l0 hrl2 hpa hpn
      have HGX:=Hd hgx
      have HRLB:=Hd hrl2
      have hvis:=fun W=>qnm gx vl W
      have HNXT:Hid (∀ c,qby s p x=c->sp3++c=sp++if p.tr.length<D then (s.ls.take (k+1)).flatMap (qby s p) else []):=fun c hc=>by
       rw [if_pos (by omega),hplr,hc,<- List.append_assoc]
       congr 1
       rw [hSP3.out,if_pos (by omega)]
      clear hcl2 hrl hvl hxx hgx hplr hrl2
      cases hvb:qa3 gx
      ·rw [hvb] at hvis
       have HC:Hid (sp3=sp++if p.tr.length<D then (s.ls.take (k+1)).flatMap (qby s p) else []):=by have h:=HNXT.out [] (hpn hvb);rw [List.append_nil] at h;exact h
       clear hpa hpn hvb
       go_wp2_with fail
       refine (hvis _).mono ?_
       rintro e w4 ⟨rfl,hx4⟩
       go_wp2_with fail
       go_roundw
       case rel=>exact ⟨k+1,sp3,some ⟨b3,off3,none⟩,cy,hk1,by go_num,rfl,by omega,hs3b,hEr.trans' hx4,HC.out,hS3.out.ext (RSp.good n) hx4,hO3.out.ext RTe.good hx4,hD3.out⟩
       case measure=>simp [intOf];omega
      rw [hvb] at hvis
      have hpa':=hpa hvb
      have hmv:=fun u cx W hW hu hc=>HMV.out p x (by rw [HGX.out];exact hvb) u cx W hW hu hc
      rw [HML.out] at hmv
      obtain ⟨MB,hMB⟩:∃ MB,marksOf n (qa9 s x p.st)=MB:=⟨_,rfl⟩
      rw [hMB] at hpa' hmv
      have HMB:=Hd hMB
      obtain ⟨ab,hab⟩:∃ ab,MB.any id=ab:=⟨_,rfl⟩
      rw [hab] at hpa'
      have HAB:=Hd hab
      have HPA':=Hd hpa'
      clear hpa hpn hvb hMB hab hpa'
      go_wp2_with fail
      refine (hvis _).mono ?_
      rintro e w4 ⟨rfl,hx4⟩
      have hEw4:=hEw.trans' hx4
      replace x0:=Ext.keep hx4 x0
      replace x1:=Ext.keep hx4 x1
      replace x2:=Ext.keep hx4 x2
      replace xz:=Nat.lt_of_lt_of_le xz hx4.size
      replace g0:=Ext.keep hx4 g0
      replace g1:=Ext.keep hx4 g1
      replace l0:=Ext.keep hx4 l0
      replace l1:=Ext.keep hx4 l1
      have hb34:=Nat.lt_of_lt_of_le hb3 hx4.size
      have hbl4:=Nat.lt_of_lt_of_le hblr hx4.size
      go_wp2_with fail
      refine qft (fun W=>W.cell? ⟨p0,0,none⟩=some (.int .i64 (n:Int))∧W.cell? ⟨p0,1,none⟩=some (.slice (some ⟨bl,ol,none⟩) ml cl)∧W.cell? ⟨p0,2,none⟩=some (.slice Ae s.es.length ce)∧W.cell? ⟨b3,off3+i*2+1,none⟩=some (.slice Am3 n cm3)∧W.cell? ⟨bl,ol+k*2,none⟩=some (.int .i64 gx)∧W.cell? ⟨bl,ol+k*2+1,none⟩=some vl) (by kernel_rfl) (by rfl) (by kernel_rfl) ⟨x0,x1,x2,g1,l0,l1⟩ (fun hHeld=>?_)
      dsimp only [List.dropLast,List.getLastD,List.getLast?,List.getLast]
      obtain ⟨We,hWe⟩:∃ We,w4.drew=We:=⟨_,rfl⟩
      have hXe:Ext w4 We:=hWe ▸ Below.drew (Ext.refl _)
      rw [hWe] at hHeld ⊢
      clear hWe
      (refine tk 0 ?_;try simp only [qae])
      (refine tk 1 ?_;try simp only [qae])
      (refine tk 2 ?_;try simp only [qae])
      (refine tk 3 ?_;try simp only [qae])
      (refine tk 4 ?_;try simp only [qae])
      (refine tk 5 ?_;try simp only [qae])
      (refine tk 6 ?_;try simp only [qae])
      (refine tk 7 ?_;try simp only [qae])
      (refine tk 8 ?_;try simp only [qae])
      (refine tk 9 ?_;try simp only [qae])
      (refine tk 10 ?_;try simp only [qae])
      refine wpAnyH_ready (rs:=[11]) (by kernel_rfl) (by simp) ?_
      refine AllReadyH.cons rfl (fun K hK=>?_) AllReadyH.nil
      go_simp
      refine (hmv _ _ _ (hEw4.trans' hXe) ((RSl.good qad.good).bel ((RSl.good qad.good).mono HMM3.out fun _ _ _=>trivial) (hx4.trans' hXe)) (RLb.good.bel (RLb.good.mono HRLB.out fun _ _ _=>trivial) (hEw4.trans' hXe))).mono ?_
      rintro e w6 ⟨A6,c6',rfl,ho6,hx1⟩
      have hx46:Ext w4 w6:=hXe.trans' hx1
      refine hK.out _ _ (Ext.k6 hx1 hHeld) (fun hHeld5=>?_)
      clear hK K
      try simp only [qae]
      refine wpAnyH_done (by kernel_rfl) ?_ _
      show Oper.wp _ _ _ _ _ _
      go_simp
      clear hHeld hHeld5
      have hWz:w4.heap.size<=We.heap.size:=hXe.size
      have HO6:=Hd ho6
      have hnn:=none_c (fun _=>True) MB (.slice A6 n c6') w6 ((RSl.good qad.good).mono (ho6.sl qad.good (by decide)) fun _ _ _=>trivial)
      rw [HAB.out] at hnn
      clear ho6 hx1 hmv
      cases ab
      ·have HC:Hid (sp3=sp++if p.tr.length<D then (s.ls.take (k+1)).flatMap (qby s p) else []):=by have h:=HNXT.out [] (by rw [HPA'.out];rfl);rw [List.append_nil] at h;exact h
       go_wp2_with fail
       refine hnn.mono ?_
       rintro e w10 ⟨rfl,h10⟩
       have hx:=(hx4.trans' hx46).trans' h10
       clear x0 x1 x2 xz g0 g1 l0 l1
       go_wp2_with fail
       go_roundw
       case rel=>exact ⟨k+1,sp3,some ⟨b3,off3,none⟩,cy,hk1,by go_num,rfl,by omega,hs3b,hEr.trans' hx,HC.out,hS3.out.ext (RSp.good n) hx,hO3.out.ext RTe.good hx,hD3.out⟩
       case measure=>simp [intOf];omega
      have HC:Hid (sp3++[⟨p.tr++[x],qa9 s x p.st⟩]=sp++if p.tr.length<D then (s.ls.take (k+1)).flatMap (qby s p) else []):=HNXT.out _ (by rw [HPA'.out];rfl)
      go_wp2_with fail
      refine hnn.mono ?_
      rintro e w10 ⟨rfl,h10⟩
      have hx610:=hx46.trans' h10
      have hxr10:Ext wr w10:=hx4.trans' hx610
      replace x1:=Ext.keep hx610 x1
      replace g0:=Ext.keep hx610 g0
      replace l0:=Ext.keep hx610 l0
      replace l1:=Ext.keep hx610 l1
      have xz10:=Nat.lt_of_lt_of_le xz hx610.size
      have hb310:=Nat.lt_of_lt_of_le hb34 hx610.size
      have hbl10:=Nat.lt_of_lt_of_le hbl4 hx610.size
      have HNEW:Hid (∀ q,w10.heap.size<=q->ob Ax≠some q∧(Value.slice (some ⟨b3,off3,none⟩) sp3.length cy).ownBlock≠some q):=fun q hq=>⟨fun e=>by have h1:=(hO3.out.obl e).2;have h2:=hxr10.size;omega,fun e=>by have h2:some b3=some q:=e;injection h2 with h2;omega⟩
      have HNEW4:Hid (∀ q,w4.heap.size<=q->ob Ax≠some q∧(Value.slice (some ⟨b3,off3,none⟩) sp3.length cy).ownBlock≠some q):=fun q hq=>⟨fun e=>by have h1:=(hO3.out.obl e).2;have h2:=hx4.size;omega,fun e=>by have h2:some b3=some q:=e;injection h2 with h2;omega⟩
      have HTA:Hid (∀ W,Ext w10 W->∀ v:Value,(∀ q,v.ownBlock=some q->w10.heap.size<=q)->RSl RLb 2 (fun q=>(ob Ax≠some q∧q≠b3)∧v.ownBlock≠some q) W p.tr [.slice At3 p.tr.length ct3]):=fun W hW v hv=>(RSl.good RLb.good).bel ((RSl.good RLb.good).mono (qaa.good.bel HTT.out hxr10) fun q hq h=>⟨⟨h.1,fun e=>h.2 (by rw [e];rfl)⟩,fun e=>by have:=hv q e;omega⟩) hW
      have HLIT:Hid (∀ W,Ext w10 W->∀ v:Value,(∀ q,v.ownBlock=some q->w10.heap.size<=q∧q≠W.heap.size)->RSl RLb 2 (fun q=>((ob Ax≠some q∧q≠b3)∧v.ownBlock≠some q)∧q<W.heap.size+1) (W.alloc (.cells #[.int .i64 gx,vl] 61)) [x] [.slice (some ⟨W.heap.size,0,none⟩) 1 1]):=fun W hW v hv=>by
       refine lit_lb (T:=fun q=>ob Ax≠some q∧q≠b3) HGX.out (RLb.good.bel HRLB.out ((hEw.trans' hxr10).trans' hW)) v (fun q _ hq=>⟨⟨fun e=>?_,fun e=>?_⟩,fun e=>?_⟩) ⟨fun e=>?_,fun e=>?_⟩ fun e=>(hv _ e).2 rfl
       ·have h1:=(hO3.out.obl e).1;have h2:=HE0.out.size;omega
       ·have h1:=(hS3.out.own_lt (b:=b3) rfl).1;have h2:=HE0.out.size;omega
       ·have h1:=(hv q e).1;have h2:=(hEw.trans' hxr10).size;omega
       ·have h1:=(hO3.out.obl e).2;have h2:=hxr10.size;have h3:=hW.size;omega
       ·have h3:=hW.size;omega
      clear x0 x2 xz g1 hnn
      go_wp2_with fail
      refine qft (fun W=>W.cell? ⟨p0,1,none⟩=some (.slice (some ⟨bl,ol,none⟩) ml cl)∧W.cell? ⟨b3,off3+i*2,none⟩=some (.slice At3 p.tr.length ct3)∧W.cell? ⟨bl,ol+k*2,none⟩=some (.int .i64 gx)∧W.cell? ⟨bl,ol+k*2+1,none⟩=some vl) (by kernel_rfl) (by rfl) (by kernel_rfl) ⟨x1,g0,l0,l1⟩ (fun hHeld=>?_)
      dsimp only [List.dropLast,List.getLastD,List.getLast?,List.getLast]
      obtain ⟨Wd,hWd⟩:∃ Wd,w10.drew=Wd:=⟨_,rfl⟩
      have hXd:Ext w10 Wd:=hWd ▸ Below.drew (Ext.refl _)
      rw [hWd] at hHeld ⊢
      clear hWd x1 g0 l0 l1
      (refine tk 1 ?_;try simp only [qae])
      (refine tk 2 ?_;try simp only [qae])
      (refine tk 3 ?_;try simp only [qae])
      (refine tk 4 ?_;try simp only [qae])
      (refine tk 5 ?_;try simp only [qae])
      (refine tk 7 ?_;try simp only [qae])
      (refine tk 8 ?_;try simp only [qae])
      (refine tk 9 ?_;try simp only [qae])
      (refine tk 10 ?_;try simp only [qae])
      (refine tk 11 ?_;try simp only [qae])
      refine wpAnyH_ready (rs:=[0,12]) (by kernel_rfl) (by simp) ?_
      refine AllReadyH.cons rfl (fun K hK=>?_) (AllReadyH.cons rfl (fun K hK=>?_) AllReadyH.nil)
      ·go_simp
       obtain ⟨Wa,hwWa⟩:∃ Wa,Wd.alloc (.cells #[] 61)=Wa:=⟨_,rfl⟩
       have hXWa:Ext w10 Wa:=by rw [<- hwWa];exact hXd.alloc _
       have hoWa:qab RLb 2 61 w10.heap.size (fun q=>ob Ax≠some q∧q≠b3) Wa ([]:List Lb) (.slice (some ⟨Wd.heap.size,0,none⟩) 0 0):=by rw [<- hwWa];exact ⟨[],World.ownsRow_lit Wd #[] 0 hXd.size (by unfold maxLen;omega) rfl,rfl⟩
       refine hK.out _ _ (Ext.k4 ((Ext.refl Wd).alloc (.cells #[] 61)) hHeld) (fun hHa=>?_)
       rw [hwWa] at hHa ⊢
       clear hK K
       try simp only [qae]
       refine wpAnyH_ready (rs:=[6,12]) (by kernel_rfl) (by simp) ?_
       refine AllReadyH.cons rfl (fun K hK=>?_) (AllReadyH.cons rfl (fun K hK=>?_) AllReadyH.nil)
       ·obtain ⟨A1,c1,Wb,hr1,hoWb,hbWb,haWb⟩:=qnf w10.heap.size (fun q=>ob Ax≠some q∧q≠b3) Wa p.tr (.slice (some ⟨Wd.heap.size,0,none⟩) 0 0) (.slice At3 p.tr.length ct3) hoWa (HTA.out Wa hXWa _ fun q e=>(hoWa.own_lt e).1) hXWa.size (by omega)
        have hXWb:Ext w10 Wb:=Bt.new hXWa hbWb fun q _ h=>(hoWa.own_lt h).1
        refine qdu rfl _ _ _ rfl _ _ _ rfl rfl hr1 ?_
        refine hK.out _ _ ⟨hbWb.cell hHa.1 (fun e=>by have h1:w10.heap.size<=p0:=(hoWa.own_lt e).1;omega),hbWb.cell hHa.2.1 (fun e=>by have h1:w10.heap.size<=b3:=(hoWa.own_lt e).1;omega),hbWb.cell hHa.2.2.1 (fun e=>by have h1:w10.heap.size<=bl:=(hoWa.own_lt e).1;omega),hbWb.cell hHa.2.2.2 (fun e=>by have h1:w10.heap.size<=bl:=(hoWa.own_lt e).1;omega)⟩ (fun hHb=>?_)
        clear hK K
        try simp only [qae]
        refine wpAnyH_ready (rs:=[12]) (by kernel_rfl) (by simp) ?_
        refine AllReadyH.cons rfl (fun K hK=>?_) AllReadyH.nil
        go_simp
        have hlWc:=HLIT.out Wb hXWb (.slice A1 p.tr.length c1) (fun q e=>⟨(hoWb.own_lt e).1,by have:=(hoWb.own_lt e).2;omega⟩)
        obtain ⟨Wc,hwWc⟩:∃ Wc,Wb.alloc (.cells #[.int .i64 gx,vl] 61)=Wc:=⟨_,rfl⟩
        have hXWc:Ext w10 Wc:=by rw [<- hwWc];exact hXWb.alloc _
        refine hK.out _ _ (Ext.k4 ((Ext.refl Wb).alloc (.cells #[.int .i64 gx,vl] 61)) hHb) (fun hHc=>?_)
        rw [hwWc] at hHc hlWc ⊢
        clear hK K
        try simp only [qae]
        have hoWc:=hoWb.ext RLb.good (show Ext Wb Wc by rw [<- hwWc];exact (Ext.refl Wb).alloc _)
        refine wpAnyH_ready (rs:=[13]) (by kernel_rfl) (by simp) ?_
        refine AllReadyH.cons rfl (fun K hK=>?_) AllReadyH.nil
        obtain ⟨AL,cL,wL,hr2,hoL,hbL⟩:=qnb w10.heap.size (fun q=>ob Ax≠some q∧q≠b3) Wc p.tr x (.slice A1 p.tr.length c1) _ hoWc ((RSl.good RLb.good).mono hlWc fun q _ h=>h.1) hXWc.size (by omega)
        have hEL:Ext w10 wL:=Bt.new hXWc hbL fun q _ h=>(hoWc.own_lt h).1
        refine qdu rfl _ _ _ rfl _ _ _ rfl rfl hr2 ?_
        refine hK.out _ _ ⟨hbL.cell hHc.1 (fun e=>by have h1:w10.heap.size<=p0:=(hoWc.own_lt e).1;omega),hbL.cell hHc.2.1 (fun e=>by have h1:w10.heap.size<=b3:=(hoWc.own_lt e).1;omega),hbL.cell hHc.2.2.1 (fun e=>by have h1:w10.heap.size<=bl:=(hoWc.own_lt e).1;omega),hbL.cell hHc.2.2.2 (fun e=>by have h1:w10.heap.size<=bl:=(hoWc.own_lt e).1;omega)⟩ (fun _=>?_)
        clear hK K
        try simp only [qae]
        refine wpAnyH_done (by kernel_rfl) ?_ _
        show Oper.wp _ _ _ _ _ _
        go_simp
        clear hHeld
        have hEL0:Ext wr wL:=hxr10.trans' hEL
        have hre:RSp n (fun q=>ob Ax≠some q∧(Value.slice (some ⟨b3,off3,none⟩) sp3.length cy).ownBlock≠some q) wL ⟨p.tr++[x],qa9 s x p.st⟩ [.slice AL (p.tr.length+1) cL,.slice A6 n c6']:=by
         refine ⟨_,_,rfl,qaa.good.mono (hoL.sl RLb.good (by decide)) fun q _ hq=>?_,?_⟩
         ·rcases hq with h | h
          ·exact ⟨h.1,fun e=>h.2 (by have h2:some b3=some q:=e;injection h2 with h2;exact h2.symm)⟩
          ·exact HNEW.out q h
         ·show RSl qad 1 _ wL (marksOf n (qa9 s x p.st)) _
          rw [HMB.out]
          refine (RSl.good qad.good).mono ((HO6.out.ext qad.good (h10.trans' hEL)).sl qad.good (by decide)) fun q _ hq=>?_
          rcases hq with h | h
          ·exact h.elim
          ·exact HNEW4.out q (Nat.le_trans hWz h)
        obtain ⟨g8,c8,w8,hr8,ho8,hb8,ha8,_⟩:=qct (RSp.good n) (by decide) W0.heap.size 124 125 (.agg #[.slice none 0 0,.slice none 0 0]) 48 Tryz.underlying125 qmm rfl (by decide) (fun q=>ob Ax≠some q) wL sp3 (.slice (some ⟨b3,off3,none⟩) sp3.length cy) ⟨p.tr++[x],qa9 s x p.st⟩ [.slice AL (p.tr.length+1) cL,.slice A6 n c6']
         (hS3.out.ext (RSp.good n) hEL0) hre (Nat.le_trans hEr.size hEL0.size) (by omega)
        have HO8:=Hd ho8
        have HB8:Hid (Ext W0 w8):=Bt.new (hEr.trans' hEL0) hb8 fun q _ h=>(hS3.out.own_lt h).1
        have HTE8:Hid (qab RTe 2 40 W0.heap.size (fun q=>ob (some ⟨g8,0,none⟩)≠some q) w8 ot2 (.slice Ax (ot.length+L.length) c9)):=by
         refine (((hO3.out.ext RTe.good hEL0).mono RTe.good (T':=fun q=>ob (some ⟨b3,off3,none⟩)≠some q∧q<wL.heap.size) fun q hq h=>⟨h,hq⟩).bt RTe.good hb8 fun q _ h=>⟨fun h'=>h'.1 h,fun e=>hD3.out q h (by rw [qf1] at e;exact e)⟩).mono RTe.good fun q _ h e=>?_
         have e2:g8=q:=by have h2:some g8=some q:=e;injection h2
         subst e2
         rcases ha8 with h' | h'
         ·exact h.1 h'
         ·have:=h.2;omega
        have HD8:Hid (∀ q,ob (some ⟨g8,0,none⟩)=some q->ob Ax≠some q):=fun q e e'=>by
         have e2:g8=q:=by have h2:some g8=some q:=e;injection h2
         subst e2
         rcases ha8 with h' | h'
         ·exact hD3.out _ h' e'
         ·have h1:=(hO3.out.obl e').2
          have h2:=hEL0.size
          omega
        have hlen8:(sp3++[(⟨p.tr++[x],qa9 s x p.st⟩:Pl)]).length=sp3.length+1:=by simp
        have HL8:=Hd hlen8
        rw [<- hlen8] at HO8
        clear ho8 hb8 ha8 hre hlen8
        go_wp2_with (at_builtin;refine wpList_append_run rfl _ _ _ rfl _ _ _ rfl rfl hr8 ?_;clear hr8)
        go_roundw
        case rel=>exact ⟨k+1,sp3++[(⟨p.tr++[x],qa9 s x p.st⟩:Pl)],some ⟨g8,0,none⟩,c8,hk1,by go_num,by rw [HL8.out],by rw [HL8.out];omega,by rw [HL8.out];omega,HB8.out,HC.out,HO8.out,HTE8.out,HD8.out⟩
        case measure=>simp [intOf];omega
       ·go_simp
        have hlWb:=HLIT.out Wa hXWa (.slice (some ⟨Wd.heap.size,0,none⟩) 0 0) (fun q e=>⟨(hoWa.own_lt e).1,by have:=(hoWa.own_lt e).2;omega⟩)
        obtain ⟨Wb,hwWb⟩:∃ Wb,Wa.alloc (.cells #[.int .i64 gx,vl] 61)=Wb:=⟨_,rfl⟩
        have hXWb:Ext w10 Wb:=by rw [<- hwWb];exact hXWa.alloc _
        refine hK.out _ _ (Ext.k4 ((Ext.refl Wa).alloc (.cells #[.int .i64 gx,vl] 61)) hHa) (fun hHb=>?_)
        rw [hwWb] at hHb hlWb ⊢
        clear hK K
        try simp only [qae]
        have hoWb:=hoWa.ext RLb.good (show Ext Wa Wb by rw [<- hwWb];exact (Ext.refl Wa).alloc _)
        have hzWb:Wa.heap.size+1=Wb.heap.size:=by rw [<- hwWb,World.size_alloc]
        refine wpAnyH_ready (rs:=[6]) (by kernel_rfl) (by simp) ?_
        obtain ⟨A1,c1,Wc,hr1,hoWc,hbWc,haWc⟩:=qnf w10.heap.size (fun q=>ob Ax≠some q∧q≠b3) Wb p.tr (.slice (some ⟨Wd.heap.size,0,none⟩) 0 0) (.slice At3 p.tr.length ct3) hoWb (HTA.out Wb hXWb _ fun q e=>(hoWb.own_lt e).1) hXWb.size (by omega)
        have hXWc:Ext w10 Wc:=Bt.new hXWb hbWc fun q _ h=>(hoWb.own_lt h).1
        refine AllReadyH.cons rfl (fun K hK=>?_) AllReadyH.nil
        refine qdu rfl _ _ _ rfl _ _ _ rfl rfl hr1 ?_
        refine hK.out _ _ ⟨hbWc.cell hHb.1 (fun e=>by have h1:w10.heap.size<=p0:=(hoWb.own_lt e).1;omega),hbWc.cell hHb.2.1 (fun e=>by have h1:w10.heap.size<=b3:=(hoWb.own_lt e).1;omega),hbWc.cell hHb.2.2.1 (fun e=>by have h1:w10.heap.size<=bl:=(hoWb.own_lt e).1;omega),hbWc.cell hHb.2.2.2 (fun e=>by have h1:w10.heap.size<=bl:=(hoWb.own_lt e).1;omega)⟩ (fun hHc=>?_)
        clear hK K
        try simp only [qae]
        refine wpAnyH_ready (rs:=[13]) (by kernel_rfl) (by simp) ?_
        refine AllReadyH.cons rfl (fun K hK=>?_) AllReadyH.nil
        obtain ⟨AL,cL,wL,hr2,hoL,hbL⟩:=qnb w10.heap.size (fun q=>ob Ax≠some q∧q≠b3) Wc p.tr x (.slice A1 p.tr.length c1) _ hoWc (qry hlWb hbWc haWc (by omega)) hXWc.size (by omega)
        have hEL:Ext w10 wL:=Bt.new hXWc hbL fun q _ h=>(hoWc.own_lt h).1
        refine qdu rfl _ _ _ rfl _ _ _ rfl rfl hr2 ?_
        refine hK.out _ _ ⟨hbL.cell hHc.1 (fun e=>by have h1:w10.heap.size<=p0:=(hoWc.own_lt e).1;omega),hbL.cell hHc.2.1 (fun e=>by have h1:w10.heap.size<=b3:=(hoWc.own_lt e).1;omega),hbL.cell hHc.2.2.1 (fun e=>by have h1:w10.heap.size<=bl:=(hoWc.own_lt e).1;omega),hbL.cell hHc.2.2.2 (fun e=>by have h1:w10.heap.size<=bl:=(hoWc.own_lt e).1;omega)⟩ (fun _=>?_)
        clear hK K
        try simp only [qae]
        refine wpAnyH_done (by kernel_rfl) ?_ _
        show Oper.wp _ _ _ _ _ _
        go_simp
        clear hHeld
        have hEL0:Ext wr wL:=hxr10.trans' hEL
        have hre:RSp n (fun q=>ob Ax≠some q∧(Value.slice (some ⟨b3,off3,none⟩) sp3.length cy).ownBlock≠some q) wL ⟨p.tr++[x],qa9 s x p.st⟩ [.slice AL (p.tr.length+1) cL,.slice A6 n c6']:=by
         refine ⟨_,_,rfl,qaa.good.mono (hoL.sl RLb.good (by decide)) fun q _ hq=>?_,?_⟩
         ·rcases hq with h | h
          ·exact ⟨h.1,fun e=>h.2 (by have h2:some b3=some q:=e;injection h2 with h2;exact h2.symm)⟩
          ·exact HNEW.out q h
         ·show RSl qad 1 _ wL (marksOf n (qa9 s x p.st)) _
          rw [HMB.out]
          refine (RSl.good qad.good).mono ((HO6.out.ext qad.good (h10.trans' hEL)).sl qad.good (by decide)) fun q _ hq=>?_
          rcases hq with h | h
          ·exact h.elim
          ·exact HNEW4.out q (Nat.le_trans hWz h)
        obtain ⟨g8,c8,w8,hr8,ho8,hb8,ha8,_⟩:=qct (RSp.good n) (by decide) W0.heap.size 124 125 (.agg #[.slice none 0 0,.slice none 0 0]) 48 Tryz.underlying125 qmm rfl (by decide) (fun q=>ob Ax≠some q) wL sp3 (.slice (some ⟨b3,off3,none⟩) sp3.length cy) ⟨p.tr++[x],qa9 s x p.st⟩ [.slice AL (p.tr.length+1) cL,.slice A6 n c6']
         (hS3.out.ext (RSp.good n) hEL0) hre (Nat.le_trans hEr.size hEL0.size) (by omega)
        have HO8:=Hd ho8
        have HB8:Hid (Ext W0 w8):=Bt.new (hEr.trans' hEL0) hb8 fun q _ h=>(hS3.out.own_lt h).1
        have HTE8:Hid (qab RTe 2 40 W0.heap.size (fun q=>ob (some ⟨g8,0,none⟩)≠some q) w8 ot2 (.slice Ax (ot.length+L.length) c9)):=by
         refine (((hO3.out.ext RTe.good hEL0).mono RTe.good (T':=fun q=>ob (some ⟨b3,off3,none⟩)≠some q∧q<wL.heap.size) fun q hq h=>⟨h,hq⟩).bt RTe.good hb8 fun q _ h=>⟨fun h'=>h'.1 h,fun e=>hD3.out q h (by rw [qf1] at e;exact e)⟩).mono RTe.good fun q _ h e=>?_
         have e2:g8=q:=by have h2:some g8=some q:=e;injection h2
         subst e2
         rcases ha8 with h' | h'
         ·exact h.1 h'
         ·have:=h.2;omega
        have HD8:Hid (∀ q,ob (some ⟨g8,0,none⟩)=some q->ob Ax≠some q):=fun q e e'=>by
         have e2:g8=q:=by have h2:some g8=some q:=e;injection h2
         subst e2
         rcases ha8 with h' | h'
         ·exact hD3.out _ h' e'
         ·have h1:=(hO3.out.obl e').2
          have h2:=hEL0.size
          omega
        have hlen8:(sp3++[(⟨p.tr++[x],qa9 s x p.st⟩:Pl)]).length=sp3.length+1:=by simp
        have HL8:=Hd hlen8
        rw [<- hlen8] at HO8
        clear ho8 hb8 ha8 hre hlen8
        go_wp2_with (at_builtin;refine wpList_append_run rfl _ _ _ rfl _ _ _ rfl rfl hr8 ?_;clear hr8)
        go_roundw
        case rel=>exact ⟨k+1,sp3++[(⟨p.tr++[x],qa9 s x p.st⟩:Pl)],some ⟨g8,0,none⟩,c8,hk1,by go_num,by rw [HL8.out],by rw [HL8.out];omega,by rw [HL8.out];omega,HB8.out,HC.out,HO8.out,HTE8.out,HD8.out⟩
        case measure=>simp [intOf];omega
      ·go_simp
       have hlWa:=HLIT.out Wd hXd (.slice (some ⟨Wd.heap.size+1,0,none⟩) 0 0) (fun q e=>by have h2:some (Wd.heap.size+1)=some q:=e;injection h2 with h2;have h3:=hXd.size;exact ⟨by omega,by omega⟩)
       obtain ⟨Wa,hwWa⟩:∃ Wa,Wd.alloc (.cells #[.int .i64 gx,vl] 61)=Wa:=⟨_,rfl⟩
       have hXWa:Ext w10 Wa:=by rw [<- hwWa];exact hXd.alloc _
       refine hK.out _ _ (Ext.k4 ((Ext.refl Wd).alloc (.cells #[.int .i64 gx,vl] 61)) hHeld) (fun hHa=>?_)
       rw [hwWa] at hHa hlWa ⊢
       clear hK K
       try simp only [qae]
       have hzWa:Wd.heap.size+1=Wa.heap.size:=by rw [<- hwWa,World.size_alloc]
       rw [hzWa] at hlWa
       refine wpAnyH_ready (rs:=[0]) (by kernel_rfl) (by simp) ?_
       refine AllReadyH.cons rfl (fun K hK=>?_) AllReadyH.nil
       go_simp
       obtain ⟨Wb,hwWb⟩:∃ Wb,Wa.alloc (.cells #[] 61)=Wb:=⟨_,rfl⟩
       have hXWb:Ext w10 Wb:=by rw [<- hwWb];exact hXWa.alloc _
       have hoWb:qab RLb 2 61 w10.heap.size (fun q=>ob Ax≠some q∧q≠b3) Wb ([]:List Lb) (.slice (some ⟨Wa.heap.size,0,none⟩) 0 0):=by rw [<- hwWb];exact ⟨[],World.ownsRow_lit Wa #[] 0 hXWa.size (by unfold maxLen;omega) rfl,rfl⟩
       refine hK.out _ _ (Ext.k4 ((Ext.refl Wa).alloc (.cells #[] 61)) hHa) (fun hHb=>?_)
       rw [hwWb] at hHb ⊢
       clear hK K
       try simp only [qae]
       have hlWb:=(RSl.good RLb.good).bel hlWa (show Ext Wa Wb by rw [<- hwWb];exact (Ext.refl Wa).alloc _)
       have hzWb:Wa.heap.size+1=Wb.heap.size:=by rw [<- hwWb,World.size_alloc]
       refine wpAnyH_ready (rs:=[6]) (by kernel_rfl) (by simp) ?_
       obtain ⟨A1,c1,Wc,hr1,hoWc,hbWc,haWc⟩:=qnf w10.heap.size (fun q=>ob Ax≠some q∧q≠b3) Wb p.tr (.slice (some ⟨Wa.heap.size,0,none⟩) 0 0) (.slice At3 p.tr.length ct3) hoWb (HTA.out Wb hXWb _ fun q e=>(hoWb.own_lt e).1) hXWb.size (by omega)
       have hXWc:Ext w10 Wc:=Bt.new hXWb hbWc fun q _ h=>(hoWb.own_lt h).1
       refine AllReadyH.cons rfl (fun K hK=>?_) AllReadyH.nil
       refine qdu rfl _ _ _ rfl _ _ _ rfl rfl hr1 ?_
       refine hK.out _ _ ⟨hbWc.cell hHb.1 (fun e=>by have h1:w10.heap.size<=p0:=(hoWb.own_lt e).1;omega),hbWc.cell hHb.2.1 (fun e=>by have h1:w10.heap.size<=b3:=(hoWb.own_lt e).1;omega),hbWc.cell hHb.2.2.1 (fun e=>by have h1:w10.heap.size<=bl:=(hoWb.own_lt e).1;omega),hbWc.cell hHb.2.2.2 (fun e=>by have h1:w10.heap.size<=bl:=(hoWb.own_lt e).1;omega)⟩ (fun hHc=>?_)
       clear hK K
       try simp only [qae]
       refine wpAnyH_ready (rs:=[13]) (by kernel_rfl) (by simp) ?_
       refine AllReadyH.cons rfl (fun K hK=>?_) AllReadyH.nil
       obtain ⟨AL,cL,wL,hr2,hoL,hbL⟩:=qnb w10.heap.size (fun q=>ob Ax≠some q∧q≠b3) Wc p.tr x (.slice A1 p.tr.length c1) _ hoWc (qry hlWb hbWc haWc (by omega)) hXWc.size (by omega)
       have hEL:Ext w10 wL:=Bt.new hXWc hbL fun q _ h=>(hoWc.own_lt h).1
       refine qdu rfl _ _ _ rfl _ _ _ rfl rfl hr2 ?_
       refine hK.out _ _ ⟨hbL.cell hHc.1 (fun e=>by have h1:w10.heap.size<=p0:=(hoWc.own_lt e).1;omega),hbL.cell hHc.2.1 (fun e=>by have h1:w10.heap.size<=b3:=(hoWc.own_lt e).1;omega),hbL.cell hHc.2.2.1 (fun e=>by have h1:w10.heap.size<=bl:=(hoWc.own_lt e).1;omega),hbL.cell hHc.2.2.2 (fun e=>by have h1:w10.heap.size<=bl:=(hoWc.own_lt e).1;omega)⟩ (fun _=>?_)
       clear hK K
       try simp only [qae]
       refine wpAnyH_done (by kernel_rfl) ?_ _
       show Oper.wp _ _ _ _ _ _
       go_simp
       clear hHeld
       have hEL0:Ext wr wL:=hxr10.trans' hEL
       have hre:RSp n (fun q=>ob Ax≠some q∧(Value.slice (some ⟨b3,off3,none⟩) sp3.length cy).ownBlock≠some q) wL ⟨p.tr++[x],qa9 s x p.st⟩ [.slice AL (p.tr.length+1) cL,.slice A6 n c6']:=by
        refine ⟨_,_,rfl,qaa.good.mono (hoL.sl RLb.good (by decide)) fun q _ hq=>?_,?_⟩
        ·rcases hq with h | h
         ·exact ⟨h.1,fun e=>h.2 (by have h2:some b3=some q:=e;injection h2 with h2;exact h2.symm)⟩
         ·exact HNEW.out q h
        ·show RSl qad 1 _ wL (marksOf n (qa9 s x p.st)) _
         rw [HMB.out]
         refine (RSl.good qad.good).mono ((HO6.out.ext qad.good (h10.trans' hEL)).sl qad.good (by decide)) fun q _ hq=>?_
         rcases hq with h | h
         ·exact h.elim
         ·exact HNEW4.out q (Nat.le_trans hWz h)
       obtain ⟨g8,c8,w8,hr8,ho8,hb8,ha8,_⟩:=qct (RSp.good n) (by decide) W0.heap.size 124 125 (.agg #[.slice none 0 0,.slice none 0 0]) 48 Tryz.underlying125 qmm rfl (by decide) (fun q=>ob Ax≠some q) wL sp3 (.slice (some ⟨b3,off3,none⟩) sp3.length cy) ⟨p.tr++[x],qa9 s x p.st⟩ [.slice AL (p.tr.length+1) cL,.slice A6 n c6']
        (hS3.out.ext (RSp.good n) hEL0) hre (Nat.le_trans hEr.size hEL0.size) (by omega)
       have HO8:=Hd ho8
       have HB8:Hid (Ext W0 w8):=Bt.new (hEr.trans' hEL0) hb8 fun q _ h=>(hS3.out.own_lt h).1
       have HTE8:Hid (qab RTe 2 40 W0.heap.size (fun q=>ob (some ⟨g8,0,none⟩)≠some q) w8 ot2 (.slice Ax (ot.length+L.length) c9)):=by
        refine (((hO3.out.ext RTe.good hEL0).mono RTe.good (T':=fun q=>ob (some ⟨b3,off3,none⟩)≠some q∧q<wL.heap.size) fun q hq h=>⟨h,hq⟩).bt RTe.good hb8 fun q _ h=>⟨fun h'=>h'.1 h,fun e=>hD3.out q h (by rw [qf1] at e;exact e)⟩).mono RTe.good fun q _ h e=>?_
        have e2:g8=q:=by have h2:some g8=some q:=e;injection h2
        subst e2
        rcases ha8 with h' | h'
        ·exact h.1 h'
        ·have:=h.2;omega
       have HD8:Hid (∀ q,ob (some ⟨g8,0,none⟩)=some q->ob Ax≠some q):=fun q e e'=>by
        have e2:g8=q:=by have h2:some g8=some q:=e;injection h2
        subst e2
        rcases ha8 with h' | h'
        ·exact hD3.out _ h' e'
        ·have h1:=(hO3.out.obl e').2
         have h2:=hEL0.size
         omega
       have hlen8:(sp3++[(⟨p.tr++[x],qa9 s x p.st⟩:Pl)]).length=sp3.length+1:=by simp
       have HL8:=Hd hlen8
       rw [<- hlen8] at HO8
       clear ho8 hb8 ha8 hre hlen8
       go_wp2_with (at_builtin;refine wpList_append_run rfl _ _ _ rfl _ _ _ rfl rfl hr8 ?_;clear hr8)
       go_roundw
       case rel=>exact ⟨k+1,sp3++[(⟨p.tr++[x],qa9 s x p.st⟩:Pl)],some ⟨g8,0,none⟩,c8,hk1,by go_num,by rw [HL8.out],by rw [HL8.out];omega,by rw [HL8.out];omega,HB8.out,HC.out,HO8.out,HTE8.out,HD8.out⟩
       case measure=>simp [intOf];omega
     case' neg =>
      have HSPQ:Hid (sp3=sp++qdk s D p):=by
       show _=_
       rw [hSP3.out,if_neg (by omega),qdk,if_neg (by omega)]
    case' neg =>
     obtain rfl:k=ml:=by omega
     have HSPQ:Hid (sp3=sp++qdk s D p):=by
      show _=_
      rw [hSP3.out,<- HML.out,List.take_length]
      rfl
    all_goals
     have hlq:sp3.length=sp.length+(qdk s D p).length:=by rw [HSPQ.out,List.length_append]
     have hqq:=HQ2.out
     rw [HOL.out,<- hlq] at hqq
     by_cases h1:(4000:Int)<((ot.length+L.length:Nat):Int)
     ·have HF:Hid (R=none):=by show _=_;rw [<- hqq,if_pos (.inl (by omega))]
      clear hqq hlq
      go_wp2_with fail
      go_ret2
      rw [HE.out,HR.out,HF.out]
      exact ⟨none,0,rfl,qer _,hEw⟩
     ·by_cases h2:(4000:Int)<(sp3.length:Int)
      ·have HF:Hid (R=none):=by show _=_;rw [<- hqq,if_pos (.inr (by omega))]
       clear hqq hlq
       go_wp2_with fail
       go_ret2
       rw [HE.out,HR.out,HF.out]
       exact ⟨none,0,rfl,qer _,hEw⟩
      ·have HRR:Hid (qGo s D (4000-(i+1)) (sp3.drop (i+1)) sp3.length ot2=R):=by
        show _=_
        rw [<- hqq,if_neg (by omega),HSPQ.out,List.drop_append_of_le_length hi1,show 4000-(i+1)=3999-i by omega]
       have HOK3:Hid (∀ q∈sp3,SpOk s q):=fun q hq=>by
        rw [HSPQ.out] at hq
        rcases List.mem_append.1 hq with h | h
        ·exact hOK.out q h
        ·exact HQOK.out p q h
       have h4k:sp3.length<=4000:=by omega
       have h4o:ot2.length<=4000:=by have:=HOL.out;omega
       have hi4:i+1<=sp3.length:=by omega
       clear hqq hlq
       go_wp2_with fail
       go_roundw
       case rel=>exact ⟨i+1,sp3,ot2,some ⟨b3,off3,none⟩,cy,Ax,c9,hi4,by go_num,rfl,by rw [HOL.out],h4k,h4o,hEr,hS3.out,by rw [HOL.out];exact hO3.out,hD3.out,HOK3.out,HRR.out⟩
       case measure=>simp [intOf];omega
end
end Go.Proofs.YtegenalcheooeaaGreat
