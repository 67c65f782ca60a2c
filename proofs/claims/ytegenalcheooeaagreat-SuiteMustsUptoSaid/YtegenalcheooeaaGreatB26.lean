/- Of the proof of a law of the suites: LArcs2, LArcs3. -/
import Derived.Test.YtegenalcheooeaaGreatB25
import Derived.Laws.Cover3
set_option linter.unusedSectionVars false
set_option linter.unusedSimpArgs false
set_option linter.unusedVariables false
namespace Go.Proofs.YtegenalcheooeaaGreat
open Go.RowKit
attribute [local go_sem] cell?_exto
section
set_option linter.unnecessarySimpa false
open Go.Shelf
theorem qic:(Tryz.prog.info? 61).map (fun i=>(i.zero,i.size,i.bytes))=some (some (.agg #[.int .i64 0,.slice none 0 0]),2,32):=by kernel_rfl
theorem run_eql_map_nil (W:World) (mo:Option Nat):(binOp .eql 233 (.map mo) (.map none)).run Tryz.prog W = .ok (.bool mo.isNone) W:=by
 have h:=run_equal_map_nil (P:=Tryz.prog) (w:=W) 233 _ _ mo Tryz.underlying233
 simp [binOp,h,go_sem]
structure qfl (base B m:Nat) (ls:List Lb) (es:List Ed) (vl ve:Value) (T:Nat→Prop) (W:World):Prop where
 box:qah W B 235 [.map (some m),vl,ve]
 lab:qab RLb 2 61 base T W ls vl
 ed:qab REd 3 88 base (fun _=>False) W es ve
 T:∀ q,T q→base≤q∧m≠q∧ve.ownBlock≠some q
 ap:∀ q,vl.ownBlock=some q→ve.ownBlock≠some q
 mb:base≤m
 map:IsMap Value.string W m (mapF ls)
theorem qfl.ext {base B m:Nat} {ls:List Lb} {es:List Ed} {vl ve:Value} {T:Nat→Prop} {W W':World} (h:qfl base B m ls es vl ve T W) (he:Ext W W'):qfl base B m ls es vl ve T W' :=
 ⟨h.box.ext he,h.lab.ext RLb.good he,h.ed.ext REd.good he,h.T,h.ap,h.mb,h.map.move (he.block m h.map.lt)⟩
theorem qfl.arcs {base B m:Nat} {ls:List Lb} {es:List Ed} {vl ve:Value} {T:Nat→Prop} {W:World} (h:qfl base B m ls es vl ve T W) (hB:B<base):qcu base B ls es ve W :=
 ⟨hB,some m,vl,T,h.box,h.lab,h.ed,fun q hq=>⟨(h.T q hq).1,fun e=>(h.T q hq).2.1 (by injection e),(h.T q hq).2.2⟩,h.ap,(.inr ⟨m,rfl,h.mb,h.map⟩)⟩
theorem qjs {α:Type} {R:Rdr α} {k base:Nat} {e:TypeId} {T:Nat→Prop} {W:World} {xs:List α} {v:Value} {m:Nat} {es:Array MapEntry} {c:Nat} (h:qab R k e base T W xs v) (hm:W.heap[m]? = some (.map es c)):v.ownBlock≠some m:=fun hv=>by
 obtain ⟨news,h1,_⟩:=h
 have:=qpl h1 hv hm
 cases this
theorem qfl.stored {base B m:Nat} {ls:List Lb} {es:List Ed} {vl ve:Value} {T:Nat→Prop} {W W3:World} (h:qfl base B m ls es vl ve T W) (hB:B<base) (hg:W.grownBy W3 (some m)) :
  qah W3 B 235 [.map (some m),vl,ve]∧qab RLb 2 61 base T W3 ls vl∧qab REd 3 88 base (fun _=>False) W3 es ve:=by
 have hb:Bt (fun q=>q=m) W W3:=(Bt.of_grown hg).mono fun q _ h=>by injection h
 obtain ⟨es',c,ks,h1,_⟩:=h.map
 have h2:=h.mb
 refine ⟨h.box.bt hb (by omega),h.lab.bt RLb.good hb fun b _ hz=>⟨fun ht=>(h.T b ht).2.1 hz.symm,fun e=>qjs h.lab h1 (hz ▸ e)⟩,h.ed.bt REd.good hb fun b _ hz=>⟨id,fun e=>qjs h.ed h1 (hz ▸ e)⟩⟩
theorem qfl.pushed {base B m:Nat} {ls:List Lb} {es:List Ed} {vl ve v8:Value} {T T':Nat→Prop} {W3 w5 w8:World} {x:Lb} {n:Nat} (hB:B<base) (hbase:base≤m) (hT:∀ q,T' q→base≤q∧m≠q∧ve.ownBlock≠some q) (hap:∀ q,vl.ownBlock=some q→ve.ownBlock≠some q)
  (box:qah w5 B 235 [.map (some m),vl,ve]) (ed:qab REd 3 88 base (fun _=>False) w5 es ve) (map:IsMap Value.string w5 m (mapF (ls++[x]))) (hlb:∀ q,vl.ownBlock=some q→base≤q)
  (ho:qab RLb 2 61 base T' w8 (ls++[x]) v8) (hbt:Bt (fun q=>vl.ownBlock=some q) w5 w8) (hat:∀ q,v8.ownBlock=some q→vl.ownBlock=some q∨w5.heap.size≤q) (hvm:vl.ownBlock≠some m) :
  w8.cell? ⟨B,1,none⟩=some vl∧w8.frozen? ⟨B,1,none⟩=false∧qcu base B (ls++[x]) es ve (w8.setCell ⟨B,1,none⟩ v8)∧Bt (fun q=>vl.ownBlock=some q∨q=B) w5 (w8.setCell ⟨B,1,none⟩ v8):=by
 have hvB:vl.ownBlock≠some B:=fun e=>by have:=hlb _ e;omega
 have hbs:=box.lt
 have hv8B:v8.ownBlock≠some B:=fun e=>by
  rcases hat _ e with h | h
  ·exact hvB h
  ·omega
 have hp:=qib RLb.good 1 box ho hbt hvB hv8B (fun h=>by have:=(hT _ h).1;omega)
 have hset:Bt (fun q=>vl.ownBlock=some q∨q=B) w5 (w8.setCell ⟨B,1,none⟩ v8):=hp.2.2.2.2
 refine ⟨hp.1.trans (box.cell 1 _),hp.2.1,⟨hB,some m,v8,T',hp.2.2.1,hp.2.2.2.1,ed.bt REd.good hset fun b hb hz=>⟨id,fun e=>?_⟩,fun q hq=>⟨(hT q hq).1,fun e=>(hT q hq).2.1 (by injection e),(hT q hq).2.2⟩,fun q hq e=>?_,.inr ⟨m,rfl,hbase,map.move (hset.block m map.lt ?_)⟩⟩,hset⟩
 ·rcases hz with hz | hz
  ·exact hap _ hz e
  ·have:=(ed.own_lt (hz ▸ e)).1;omega
 ·rcases hat q hq with h | h
  ·exact hap q h e
  ·have:=(ed.own_lt e).2;omega
 ·rintro (h | h)
  ·exact hvm h
  ·omega
def NumPost (base lim B:Nat) (ls:List Lb) (es:List Ed) (ve:Value) (x:Lb) (w:World) (e:Ending) (w':World):Prop:=e = .returned (.int .i64 (ls.idxOf x:Int))∧qcu base B (qc3 ls x) es ve w'∧Bt (fun q=>q=B∨base≤q∧q<lim) w w'
set_option maxHeartbeats 1000000 in
set_option maxRecDepth 100000 in
theorem number_c (S:Nat→Prop) (base B:Nat) (ls:List Lb) (es:List Ed) (ve:Value) (x:Lb) (hok:qax x=true) (hoks:∀ y∈ls,qax y=true) (hsz:x.size≤1000000000) (hlen:ls.length≤1000000) (cs:List Value) (w0 w:World) (hS:∀ q,S q→q<base∧q≠B) (hbase:base≤w.heap.size)
  (hA0:qcu base B ls es ve w0) (hX0:Ext w0 w) (hx:RLb S w x cs):Calls Tryz.prog 245 #[.pointer (some ⟨B,0,none⟩),.agg cs.toArray] w (NumPost base w0.heap.size B ls es ve x w):=by
 obtain ⟨mo,vl,T,hbox0,hlab0,hed0,hT,hap,hmo⟩:=hA0.ex
 have hB:=hA0.lt
 have hbox:=hbox0.ext hX0
 have hlab:=hlab0.ext RLb.good hX0
 have hed:=hed0.ext REd.good hX0
 have hvz:∀ q,vl.ownBlock=some q→base≤q∧q<w0.heap.size:=fun q hq=>hlab0.own_lt hq
 have hX0s:=hX0.size
 have hbs:=hbox.lt
 have a0:=hbox.cell 0 _
 have a1:=hbox.cell 1 _
 have a2:=hbox.cell 2 _
 have f0:=hbox.frozen 0
 obtain ⟨i1,v,rfl,hv⟩:=id hx
 obtain ⟨Ax,cx,rfl,_,_⟩:=hv.val
 have HX:=Hd hx
 have hkc:=fun W (hW:RLb S W x [.int .i64 x.g,.slice Ax x.v.length cx])=>key_c S x hok hsz _ W hW
 have hlc:=fun W (hW:RLb S W x [.int .i64 x.g,.slice Ax x.v.length cx])=>label_c S x hok _ W hW
 have hidx:(ls.idxOf x:Int)≤1000000:=by have:=List.idxOf_le_length (a:=x) (l:=ls);omega
 have hvl:∃ A n c,vl = .slice A n c:=by obtain ⟨A,c,h,_⟩:=(hlab.sl RLb.good (by decide)).val;exact ⟨A,_,c,h⟩
 have hlb:=fun q hq=>hlab.own_lt (b:=q) hq
 clear hx hv hbox0 hlab0 hed0
 rcases hmo with ⟨rfl,hls⟩ | ⟨m,rfl,hm,hmap0⟩
 ·-- the map is made
  obtain ⟨A,n0,c0,rfl⟩:=hvl
  obtain ⟨Av,cv,hve,_⟩:=(hlab.sl RLb.good (by decide)).val
  injection hve with ha0 hn0 hc0'
  subst ha0 hn0 hc0'
  obtain ⟨T,hTf⟩:∃ T:Nat→Prop,∀ q,¬ T q:=⟨fun _=>False,fun _ h=>h⟩
  have HLAB:Hid (qab RLb 2 61 base T w ls (.slice A ls.length c0)):=by subst hls;obtain ⟨news,h1,h2⟩:=hlab;exact ⟨news,h1,h2⟩
  have HLS:=Hd hls
  clear hls
  have HED:=Hd hed
  have HBOX:=Hd hbox
  have HAP:=Hd hap
  have hvx:¬ (Value.slice A ls.length c0).ownBlock=some w.heap.size:=fun e=>by have:=(hlb _ e).2;omega
  have hmm:=@run_makeMap Tryz.prog
  have hnil:=fun W=>run_eql_map_nil W none
  have hz0:B<(w.alloc (.cells #[.int .i64 x.g,.slice Ax x.v.length cx] 61)).heap.size:=by simp;omega
  have hbb:B<((w.alloc (.cells #[.int .i64 x.g,.slice Ax x.v.length cx] 61)).alloc (.map #[] 0)).heap.size:=by simp;omega
  have f0':((w.alloc (.cells #[.int .i64 x.g,.slice Ax x.v.length cx] 61)).alloc (.map #[] 0)).frozen? ⟨B,0,none⟩=false:=((hbox.ext (((Ext.refl w).alloc _).alloc _)).frozen 0)
  have a0':=((hbox.ext (((Ext.refl w).alloc (.cells #[.int .i64 x.g,.slice Ax x.v.length cx] 61)).alloc (.map #[] 0))).cell 0 _)
  clear hA0 hX0 hlab hed hbox hlb hap
  go_enter Tryz.func245,Tryz.ntmps245
  go_wp2_with fail
  obtain ⟨m,hme⟩:∃ m,w.heap.size+1=m:=⟨_,rfl⟩
  obtain ⟨Wa,hWa⟩:∃ Wa,w.setCell ⟨B,0,none⟩ (.map (some (w.heap.size+1)))=Wa:=⟨_,rfl⟩
  have hset:Bt (fun q=>q=B) w Wa:=by rw [← hWa];exact Bt.set (Z:=fun q=>q=B) (p:=⟨B,0,none⟩) (Bt.refl _ _) (.inr rfl) _
  have hsa:Wa.heap.size=w.heap.size:=by rw [← hWa];simp [World.setCell]
  have hBX:qah Wa B 235 [.map (some (w.heap.size+1)),.slice A ls.length c0,ve]:=by rw [← hWa];exact HBOX.out.set 0 _
  rw [hWa,hme]
  rw [hme] at hBX
  clear hWa
  obtain ⟨W,hW⟩:∃ W,(Wa.alloc (.cells #[.int .i64 x.g,.slice Ax x.v.length cx] 61)).alloc (.map #[] 0)=W:=⟨_,rfl⟩
  have hXa:Ext Wa W:=by rw [← hW];exact ((Ext.refl Wa).alloc _).alloc _
  have hsW:W.heap.size=w.heap.size+2:=by rw [← hW];simp [hsa]
  have xb0:W.cell? ⟨w.heap.size,0,none⟩=some (.int .i64 x.g):=by exact hW ▸ hsa ▸ Lib.cell?_alloc_some _ (by simpa using qei Wa #[.int .i64 x.g,.slice Ax x.v.length cx] 61 0 _ rfl)
  have xb1:W.cell? ⟨w.heap.size,1,none⟩=some (.slice Ax x.v.length cx):=by exact hW ▸ hsa ▸ Lib.cell?_alloc_some _ (by simpa using qei Wa #[.int .i64 x.g,.slice Ax x.v.length cx] 61 1 _ rfl)
  have hma:IsMap Value.string W m (mapF ls):=by
   rw [HLS.out,← hW,mapF_nil,← hme,← hsa]
   have:=IsMap.new Value.string (Wa.alloc (.cells #[.int .i64 x.g,.slice Ax x.v.length cx] 61))
   rwa [World.size_alloc] at this
  rw [hW]
  have hBa:Bt (fun q=>q=B) w W:=hset.ext hXa
  have HN:Hid (qfl base B m ls es (.slice A ls.length c0) ve T W) :=
   ⟨hBX.ext hXa,HLAB.out.bt RLb.good hBa fun b _ hz=>⟨fun ht=>absurd ht (hTf b),fun e=>by have:=(HLAB.out.own_lt e).1;omega⟩,HED.out.bt REd.good hBa fun b _ hz=>⟨id,fun e=>by have:=(HED.out.own_lt e).1;omega⟩,
    fun q hq=>absurd hq (hTf q),HAP.out,by omega,hma⟩
  have hmx:m≠w.heap.size:=by omega
  have hmz:m<w0.heap.size∨w.heap.size≤m:=by omega
  have HXW:Hid (Bt (fun q=>q=B∨base≤q∧(q<w0.heap.size∨w.heap.size≤q)) w W):=hBa.mono fun q _ h=>.inl h
  have HRX:Hid (RLb S W x [.int .i64 x.g,.slice Ax x.v.length cx]):=RLb.good.move HX.out (hBa.kp (S:=S) fun q _ h h'=>(hS q h).2 h')
  have hWz:w.heap.size<W.heap.size:=by omega
  have hm:base≤m:=by omega
  clear hBX hset hBa hma hXa hsa hsW hme hW a0 a1 a2 f0 hnil a0' f0' hz0 hbb HLAB HED HBOX HAP HX
  clear Wa
  try go_wp2_with fail
  refine (hkc _ HRX.out).mono ?_
  rintro e w3 ⟨rfl,h3⟩
  have hN3:=HN.out.ext h3
  have d0:=hN3.box.cell 0 _
  have d1:=hN3.box.cell 1 _
  have x0:=Ext.keep h3 xb0
  have x1:=Ext.keep h3 xb1
  have hrx:=RLb.good.bel HRX.out h3
  have hz3:=h3.size
  have hBt3:=HXW.out.ext h3
  have hlk:=hN3.map.lookup2 (P:=Tryz.prog) Tryz.underlying233 qlq (z:=.int .i64 0) (by kernel_rfl) (qd0 x)
  rw [qqc ls x hok hoks] at hlk
  clear HN HXW HRX h3 xb0 xb1
  by_cases hmem:x∈ls
  ·rw [if_pos hmem] at hlk
   simp only [Option.getD_some,Option.isSome_some] at hlk
   have HFIN:Hid (qcu base B (qc3 ls x) es ve w3∧Bt (fun q=>q=B∨base≤q∧(q<w0.heap.size∨w.heap.size≤q)) w w3):=⟨by unfold qc3;rw [if_pos hmem];exact hN3.arcs hB,hBt3⟩
   clear hN3 hmem hBt3 hrx
   go_wp2_with fail
   go_ret
   exact ⟨rfl,HFIN.out.1,(HFIN.out.2.mono fun q hq h=>h.imp id fun h=>⟨h.1,by omega⟩)⟩
  ·rw [if_neg hmem] at hlk
   simp only [Option.getD_none,Option.isSome_none] at hlk
   obtain ⟨W3,hr3,hmp3,hg3⟩:=hN3.map.store (P:=Tryz.prog) Tryz.underlying233 qlq (qd0 x) (.int .i64 (ls.length:Int))
   rw [qp7 ls x hok hoks hmem] at hmp3
   obtain ⟨p1,p2,p3⟩:=hN3.stored hB hg3
   have hbm:Bt (fun q=>q=m) w3 W3:=(Bt.of_grown hg3).mono fun q _ h=>by injection h
   have y0:=hbm.cell x0 (Ne.symm hmx)
   have y1:=hbm.cell x1 (Ne.symm hmx)
   have e1:=p1.cell 1 _
   have hrx3:=RLb.good.move hrx (hbm.kp (S:=S) fun q _ h h'=>by have:=(hS q h).1;have:=hN3.mb;omega)
   have hlb3:=fun q hq=>p2.own_lt (b:=q) hq
   have hve3:=fun q hq=>p3.own_lt (b:=q) hq
   have hm3:=hmp3.lt
   have hB3:=p1.lt
   have hidl:ls.idxOf x=ls.length:=List.idxOf_eq_length hmem
   have hvm:(Value.slice A ls.length c0).ownBlock≠some m:=by obtain ⟨es',c',ks,h1,_⟩:=hmp3;exact qjs p2 h1
   have hT3:=hN3.T
   have hap3:=hN3.ap
   have hmb:=hN3.mb
   have hBt4:Bt (fun q=>q=B∨base≤q∧(q<w0.heap.size∨w.heap.size≤q)) w W3:=hBt3.trans (hbm.mono fun q _ h=>.inr (h ▸ ⟨hmb,hmz⟩))
   have hadd:qc3 ls x=ls++[x]:=by unfold qc3;rw [if_neg hmem]
   have key:∀ (WX w5:World) (A5:Option Addr) (c5:Nat),Ext W3 WX→Ext WX w5→qal (fun b=>WX.heap.size≤b) w5 x.v [.slice A5 x.v.length c5] →
     ∃ g8 c8 w8,(Builtin.append_ #[22,22] 22 #[.slice A ls.length c0,.slice (some ⟨w5.heap.size,0,none⟩) 1 1]).run Tryz.prog (w5.alloc (.cells #[.int .i64 x.g,.slice A5 x.v.length c5] 61)) = .ok (.slice (some ⟨g8,0,none⟩) (ls.length+1) c8) w8 ∧
      Bt (fun q=>(Value.slice A ls.length c0).ownBlock=some q) (w5.alloc (.cells #[.int .i64 x.g,.slice A5 x.v.length c5] 61)) w8∧w8.frozen? ⟨B,1,none⟩=false ∧
      Hid (qcu base B (ls++[x]) es ve (w8.setCell ⟨B,1,none⟩ (.slice (some ⟨g8,0,none⟩) (ls.length+1) c8))∧Bt (fun q=>q=B∨base≤q∧(q<w0.heap.size∨w.heap.size≤q)) w (w8.setCell ⟨B,1,none⟩ (.slice (some ⟨g8,0,none⟩) (ls.length+1) c8))):=fun WX w5 A5 c5 hX h5 h6=>by
    have hX5:=hX.trans' h5
    have hz5:=hX5.size
    have hzX:=hX.size
    have ho5:=(p2.ext RLb.good hX5).mono (T':=fun q=>T q∨W3.heap.size≤q) RLb.good (fun b _ h=>.inl h)
    obtain ⟨g8,c8,w8,hr8,ho8,hb8,ha8,hbA⟩:=qcy RLb.good (by decide) base 61 22 (.agg #[.int .i64 0,.slice none 0 0]) 32 Tryz.underlying22 qic rfl (by decide) (fun q=>T q∨W3.heap.size≤q) w5 ls (.slice A ls.length c0) x [.int .i64 x.g,.slice A5 x.v.length c5]
     ho5 ⟨i1,_,rfl,qal.good.mono h6 fun b _ hb=>⟨.inr (by omega),fun e=>by have:=(hlb3 b e).2;omega⟩⟩ (by omega) hlen
    have hp:=qfl.pushed (x:=x) (n:=0) (W3:=W3) (T:=T) hB hmb (T':=fun q=>T q∨W3.heap.size≤q) (fun q hq=>by
      rcases hq with hq | hq
      ·exact hT3 q hq
      ·exact ⟨by omega,by omega,fun e=>by have:=(hve3 q e).2;omega⟩) hap3 (p1.ext hX5) (p3.ext REd.good hX5) (hmp3.move (hX5.block m hm3)) (fun q hq=>(hlb3 q hq).1) ho8 hb8
     (fun q hq=>by
      simp only [Value.ownBlock,Option.some.injEq] at hq
      subst hq
      exact ha8) hvm
    exact ⟨g8,c8,w8,hr8,hbA,hp.2.1,hp.2.2.1,(hBt4.ext hX5).trans (hp.2.2.2.mono fun q _ h=>by
     rcases h with h | h
     ·exact .inr ⟨(hvz q h).1,.inl (hvz q h).2⟩
     ·exact .inl h)⟩
   have HK:=Hd key
   have hn1:¬ (Value.slice A ls.length c0).ownBlock=some B:=fun e=>by have:=(hlb3 _ e).1;omega
   have hn2:¬ (Value.slice A ls.length c0).ownBlock=some w.heap.size:=hvx
   have hl3:=fun WX (h:Ext W3 WX)=>hlc WX (RLb.good.bel hrx3 h)
   have HID:=Hd hidl
   have HADD:=Hd hadd
   clear hN3 hmem hBt3 hrx key hadd p1 p2 p3 hmp3 hg3 hT3 hap3 hbm hrx3 hBt4 hlb3 hve3 hidl hkc hlc
   go_wp2_with fail
   refine qfi (fun W=>W.cell? ⟨B,1,none⟩=some (.slice A ls.length c0)∧W.cell? ⟨w.heap.size,0,none⟩=some (.int .i64 x.g)∧W.cell? ⟨w.heap.size,1,none⟩=some (.slice Ax x.v.length cx)) (by kernel_rfl) (by rfl) (by kernel_rfl) ⟨e1,y0,y1⟩ (fun hHeld=>?_)
   dsimp only [List.dropLast,List.getLastD,List.getLast?,List.getLast]
   (refine tk 0 ?_;try simp only [qae])
   (refine tk 1 ?_;try simp only [qae])
   (refine tk 2 ?_;try simp only [qae])
   (refine tk 3 ?_;try simp only [qae])
   (refine tk 4 ?_;try simp only [qae])
   (refine tk 5 ?_;try simp only [qae])
   refine wpAnyH_ready (rs:=[6]) (by kernel_rfl) (by simp) ?_
   refine AllReadyH.cons rfl (fun K hK=>?_) AllReadyH.nil
   go_simp
   refine (hl3 _ bel).mono ?_
   rintro e w5 ⟨A5,c5,rfl,hr5,hx5⟩
   obtain ⟨g8,c8,w8,hr8,hb8,f8,fin8⟩:=HK.out _ _ _ _ bel hx5 hr5
   refine hK.out _ _ (Ext.k3 hx5 hHeld) (fun hHeld5=>?_)
   clear hK K
   try simp only [qae]
   refine wpAnyH_ready (rs:=[7]) (by kernel_rfl) (by simp) ?_
   refine AllReadyH.cons rfl (fun K hK=>?_) AllReadyH.nil
   go_simp
   have hHeld6:=Ext.k3 ((Ext.refl w5).alloc (.cells #[.int .i64 x.g,.slice A5 x.v.length c5] 61)) hHeld5
   refine hK.out _ _ hHeld6 (fun _=>?_)
   clear hK K
   try simp only [qae]
   refine wpAnyH_ready (rs:=[8]) (by kernel_rfl) (by simp) ?_
   refine AllReadyH.cons rfl (fun K hK=>?_) AllReadyH.nil
   refine qdj rfl _ _ _ rfl _ _ _ rfl rfl hr8 ?_
   have k8:=hb8.cell hHeld6.1 hn1
   refine hK.out _ _ ⟨k8,hb8.cell hHeld6.2.1 hn2,hb8.cell hHeld6.2.2 hn2⟩ (fun hHeld8=>?_)
   clear hK K
   try simp only [qae]
   (refine tk 9 ?_;try simp only [qae])
   (refine tk 10 ?_;try simp only [qae])
   refine wpAnyH_done (by kernel_rfl) ?_ _
   show Oper.wp _ _ _ _ _ _
   go_simp
   go_wp2_with fail
   go_ret
   exact ⟨by rw [HID.out];rfl,by rw [HADD.out];exact fin8.out.1,(fin8.out.2.mono fun q hq h=>h.imp id fun h=>⟨h.1,by omega⟩)⟩
 ·obtain ⟨A,n0,c0,rfl⟩:=hvl
  obtain ⟨Av,cv,hve,_⟩:=(hlab.sl RLb.good (by decide)).val
  injection hve with ha0 hn0 hc0'
  subst ha0 hn0 hc0'
  have hmap:=hmap0.move (hX0.block m hmap0.lt)
  have hmz:m<w0.heap.size∨w.heap.size≤m:=.inl hmap0.lt
  have HN:=Hd ((qfl.mk hbox hlab hed (fun q hq=>⟨(hT q hq).1,fun e=>(hT q hq).2.1 (by rw [e]),(hT q hq).2.2⟩) hap hm hmap).ext ((Ext.refl w).alloc (.cells #[.int .i64 x.g,.slice Ax x.v.length cx] 61)))
  have hmx:m≠w.heap.size:=by have:=hmap.lt;omega
  have hvx:¬ (Value.slice A ls.length c0).ownBlock=some w.heap.size:=fun e=>by have:=(hlb _ e).2;omega
  have HXW:Hid (Bt (fun q=>q=B∨base≤q∧(q<w0.heap.size∨w.heap.size≤q)) w (w.alloc (.cells #[.int .i64 x.g,.slice Ax x.v.length cx] 61))):=(Bt.refl _ _).alloc _
  have HRX:Hid (RLb S (w.alloc (.cells #[.int .i64 x.g,.slice Ax x.v.length cx] 61)) x [.int .i64 x.g,.slice Ax x.v.length cx]):=RLb.good.bel HX.out ((Ext.refl w).alloc _)
  have hnil:=fun W=>run_eql_map_nil W (some m)
  clear hbox hlab hed hmap hmap0 hA0 hX0 hlb HX
  go_enter Tryz.func245,Tryz.ntmps245
  go_wp2_with fail
  have xb0:(w.alloc (.cells #[.int .i64 x.g,.slice Ax x.v.length cx] 61)).cell? ⟨w.heap.size,0,none⟩=some (.int .i64 x.g):=by go_simp
  have xb1:(w.alloc (.cells #[.int .i64 x.g,.slice Ax x.v.length cx] 61)).cell? ⟨w.heap.size,1,none⟩=some (.slice Ax x.v.length cx):=by go_simp
  have hWz:w.heap.size<(w.alloc (.cells #[.int .i64 x.g,.slice Ax x.v.length cx] 61)).heap.size:=by simp
  obtain ⟨W,hW⟩:∃ W,w.alloc (.cells #[.int .i64 x.g,.slice Ax x.v.length cx] 61)=W:=⟨_,rfl⟩
  rw [hW] at HN HXW HRX xb0 xb1 hWz ⊢
  clear hW a0 a1 a2 f0 hnil
  try go_wp2_with fail
  refine (hkc _ HRX.out).mono ?_
  rintro e w3 ⟨rfl,h3⟩
  have hN3:=HN.out.ext h3
  have d0:=hN3.box.cell 0 _
  have d1:=hN3.box.cell 1 _
  have x0:=Ext.keep h3 xb0
  have x1:=Ext.keep h3 xb1
  have hrx:=RLb.good.bel HRX.out h3
  have hz3:=h3.size
  have hBt3:=HXW.out.ext h3
  have hlk:=hN3.map.lookup2 (P:=Tryz.prog) Tryz.underlying233 qlq (z:=.int .i64 0) (by kernel_rfl) (qd0 x)
  rw [qqc ls x hok hoks] at hlk
  clear HN HXW HRX h3 xb0 xb1
  by_cases hmem:x∈ls
  ·rw [if_pos hmem] at hlk
   simp only [Option.getD_some,Option.isSome_some] at hlk
   have HFIN:Hid (qcu base B (qc3 ls x) es ve w3∧Bt (fun q=>q=B∨base≤q∧(q<w0.heap.size∨w.heap.size≤q)) w w3):=⟨by unfold qc3;rw [if_pos hmem];exact hN3.arcs hB,hBt3⟩
   clear hN3 hmem hBt3 hrx
   go_wp2_with fail
   go_ret
   exact ⟨rfl,HFIN.out.1,(HFIN.out.2.mono fun q hq h=>h.imp id fun h=>⟨h.1,by omega⟩)⟩
  ·rw [if_neg hmem] at hlk
   simp only [Option.getD_none,Option.isSome_none] at hlk
   obtain ⟨W3,hr3,hmp3,hg3⟩:=hN3.map.store (P:=Tryz.prog) Tryz.underlying233 qlq (qd0 x) (.int .i64 (ls.length:Int))
   rw [qp7 ls x hok hoks hmem] at hmp3
   obtain ⟨p1,p2,p3⟩:=hN3.stored hB hg3
   have hbm:Bt (fun q=>q=m) w3 W3:=(Bt.of_grown hg3).mono fun q _ h=>by injection h
   have y0:=hbm.cell x0 (Ne.symm hmx)
   have y1:=hbm.cell x1 (Ne.symm hmx)
   have e1:=p1.cell 1 _
   have hrx3:=RLb.good.move hrx (hbm.kp (S:=S) fun q _ h h'=>by have:=(hS q h).1;have:=hN3.mb;omega)
   have hlb3:=fun q hq=>p2.own_lt (b:=q) hq
   have hve3:=fun q hq=>p3.own_lt (b:=q) hq
   have hm3:=hmp3.lt
   have hB3:=p1.lt
   have hidl:ls.idxOf x=ls.length:=List.idxOf_eq_length hmem
   have hvm:(Value.slice A ls.length c0).ownBlock≠some m:=by obtain ⟨es',c',ks,h1,_⟩:=hmp3;exact qjs p2 h1
   have hT3:=hN3.T
   have hap3:=hN3.ap
   have hmb:=hN3.mb
   have hBt4:Bt (fun q=>q=B∨base≤q∧(q<w0.heap.size∨w.heap.size≤q)) w W3:=hBt3.trans (hbm.mono fun q _ h=>.inr (h ▸ ⟨hmb,hmz⟩))
   have hadd:qc3 ls x=ls++[x]:=by unfold qc3;rw [if_neg hmem]
   have key:∀ (WX w5:World) (A5:Option Addr) (c5:Nat),Ext W3 WX→Ext WX w5→qal (fun b=>WX.heap.size≤b) w5 x.v [.slice A5 x.v.length c5] →
     ∃ g8 c8 w8,(Builtin.append_ #[22,22] 22 #[.slice A ls.length c0,.slice (some ⟨w5.heap.size,0,none⟩) 1 1]).run Tryz.prog (w5.alloc (.cells #[.int .i64 x.g,.slice A5 x.v.length c5] 61)) = .ok (.slice (some ⟨g8,0,none⟩) (ls.length+1) c8) w8 ∧
      Bt (fun q=>(Value.slice A ls.length c0).ownBlock=some q) (w5.alloc (.cells #[.int .i64 x.g,.slice A5 x.v.length c5] 61)) w8∧w8.frozen? ⟨B,1,none⟩=false ∧
      Hid (qcu base B (ls++[x]) es ve (w8.setCell ⟨B,1,none⟩ (.slice (some ⟨g8,0,none⟩) (ls.length+1) c8))∧Bt (fun q=>q=B∨base≤q∧(q<w0.heap.size∨w.heap.size≤q)) w (w8.setCell ⟨B,1,none⟩ (.slice (some ⟨g8,0,none⟩) (ls.length+1) c8))):=fun WX w5 A5 c5 hX h5 h6=>by
    have hX5:=hX.trans' h5
    have hz5:=hX5.size
    have hzX:=hX.size
    have ho5:=(p2.ext RLb.good hX5).mono (T':=fun q=>T q∨W3.heap.size≤q) RLb.good (fun b _ h=>.inl h)
    obtain ⟨g8,c8,w8,hr8,ho8,hb8,ha8,hbA⟩:=qcy RLb.good (by decide) base 61 22 (.agg #[.int .i64 0,.slice none 0 0]) 32 Tryz.underlying22 qic rfl (by decide) (fun q=>T q∨W3.heap.size≤q) w5 ls (.slice A ls.length c0) x [.int .i64 x.g,.slice A5 x.v.length c5]
     ho5 ⟨i1,_,rfl,qal.good.mono h6 fun b _ hb=>⟨.inr (by omega),fun e=>by have:=(hlb3 b e).2;omega⟩⟩ (by omega) hlen
    have hp:=qfl.pushed (x:=x) (n:=0) (W3:=W3) (T:=T) hB hmb (T':=fun q=>T q∨W3.heap.size≤q) (fun q hq=>by
      rcases hq with hq | hq
      ·exact hT3 q hq
      ·exact ⟨by omega,by omega,fun e=>by have:=(hve3 q e).2;omega⟩) hap3 (p1.ext hX5) (p3.ext REd.good hX5) (hmp3.move (hX5.block m hm3)) (fun q hq=>(hlb3 q hq).1) ho8 hb8
     (fun q hq=>by
      simp only [Value.ownBlock,Option.some.injEq] at hq
      subst hq
      exact ha8) hvm
    exact ⟨g8,c8,w8,hr8,hbA,hp.2.1,hp.2.2.1,(hBt4.ext hX5).trans (hp.2.2.2.mono fun q _ h=>by
     rcases h with h | h
     ·exact .inr ⟨(hvz q h).1,.inl (hvz q h).2⟩
     ·exact .inl h)⟩
   have HK:=Hd key
   have hn1:¬ (Value.slice A ls.length c0).ownBlock=some B:=fun e=>by have:=(hlb3 _ e).1;omega
   have hn2:¬ (Value.slice A ls.length c0).ownBlock=some w.heap.size:=hvx
   have hl3:=fun WX (h:Ext W3 WX)=>hlc WX (RLb.good.bel hrx3 h)
   have HID:=Hd hidl
   have HADD:=Hd hadd
   clear hN3 hmem hBt3 hrx key hadd p1 p2 p3 hmp3 hg3 hT3 hap3 hbm hrx3 hBt4 hlb3 hve3 hidl hkc hlc
   go_wp2_with fail
   refine qfi (fun W=>W.cell? ⟨B,1,none⟩=some (.slice A ls.length c0)∧W.cell? ⟨w.heap.size,0,none⟩=some (.int .i64 x.g)∧W.cell? ⟨w.heap.size,1,none⟩=some (.slice Ax x.v.length cx)) (by kernel_rfl) (by rfl) (by kernel_rfl) ⟨e1,y0,y1⟩ (fun hHeld=>?_)
   dsimp only [List.dropLast,List.getLastD,List.getLast?,List.getLast]
   (refine tk 0 ?_;try simp only [qae])
   (refine tk 1 ?_;try simp only [qae])
   (refine tk 2 ?_;try simp only [qae])
   (refine tk 3 ?_;try simp only [qae])
   (refine tk 4 ?_;try simp only [qae])
   (refine tk 5 ?_;try simp only [qae])
   refine wpAnyH_ready (rs:=[6]) (by kernel_rfl) (by simp) ?_
   refine AllReadyH.cons rfl (fun K hK=>?_) AllReadyH.nil
   go_simp
   refine (hl3 _ bel).mono ?_
   rintro e w5 ⟨A5,c5,rfl,hr5,hx5⟩
   obtain ⟨g8,c8,w8,hr8,hb8,f8,fin8⟩:=HK.out _ _ _ _ bel hx5 hr5
   refine hK.out _ _ (Ext.k3 hx5 hHeld) (fun hHeld5=>?_)
   clear hK K
   try simp only [qae]
   refine wpAnyH_ready (rs:=[7]) (by kernel_rfl) (by simp) ?_
   refine AllReadyH.cons rfl (fun K hK=>?_) AllReadyH.nil
   go_simp
   have hHeld6:=Ext.k3 ((Ext.refl w5).alloc (.cells #[.int .i64 x.g,.slice A5 x.v.length c5] 61)) hHeld5
   refine hK.out _ _ hHeld6 (fun _=>?_)
   clear hK K
   try simp only [qae]
   refine wpAnyH_ready (rs:=[8]) (by kernel_rfl) (by simp) ?_
   refine AllReadyH.cons rfl (fun K hK=>?_) AllReadyH.nil
   refine qdj rfl _ _ _ rfl _ _ _ rfl rfl hr8 ?_
   have k8:=hb8.cell hHeld6.1 hn1
   refine hK.out _ _ ⟨k8,hb8.cell hHeld6.2.1 hn2,hb8.cell hHeld6.2.2 hn2⟩ (fun hHeld8=>?_)
   clear hK K
   try simp only [qae]
   (refine tk 9 ?_;try simp only [qae])
   (refine tk 10 ?_;try simp only [qae])
   refine wpAnyH_done (by kernel_rfl) ?_ _
   show Oper.wp _ _ _ _ _ _
   go_simp
   go_wp2_with fail
   go_ret
   exact ⟨by rw [HID.out];rfl,by rw [HADD.out];exact fin8.out.1,(fin8.out.2.mono fun q hq h=>h.imp id fun h=>⟨h.1,by omega⟩)⟩
end
section
open Go.Shelf
theorem ql6:(Tryz.prog.info? 88).map (fun i=>(i.zero,i.size,i.bytes))=some (some (.agg #[.int .i64 0,.int .i64 0,.int .i64 0]),3,24):=by kernel_rfl
theorem qcu.pushE {base B:Nat} {ls:List Lb} {es:List Ed} {ve v8:Value} {w5 w8:World} {x:Ed} (hA:qcu base B ls es ve w5) (ho:qab REd 3 88 base (fun _=>False) w8 (es++[x]) v8) (hbt:Bt (fun q=>ve.ownBlock=some q) w5 w8) (hat:∀ q,v8.ownBlock=some q→ve.ownBlock=some q∨w5.heap.size≤q) :
  w8.cell? ⟨B,2,none⟩=some ve∧w8.frozen? ⟨B,2,none⟩=false∧qcu base B ls (es++[x]) v8 (w8.setCell ⟨B,2,none⟩ v8)∧Bt (fun q=>ve.ownBlock=some q∨q=B) w5 (w8.setCell ⟨B,2,none⟩ v8):=by
 obtain ⟨mo,vl,T,hbox,hlab,hed,hT,hap,hmo⟩:=hA.ex
 have hB:=hA.lt
 have hbs:=hbox.lt
 have hvB:ve.ownBlock≠some B:=fun e=>by have:=(hed.own_lt e).1;omega
 have hv8B:v8.ownBlock≠some B:=fun e=>by
  rcases hat _ e with h | h
  ·exact hvB h
  ·omega
 have hp:=qib REd.good 2 hbox ho hbt hvB hv8B (fun h=>h)
 have hset:Bt (fun q=>ve.ownBlock=some q∨q=B) w5 (w8.setCell ⟨B,2,none⟩ v8):=hp.2.2.2.2
 have hlab2:=hlab.mono (T':=fun q=>T q∧q<w5.heap.size) RLb.good fun b hb h=>⟨h,hb⟩
 refine ⟨hp.1.trans (hbox.cell 2 _),hp.2.1,⟨hB,mo,vl,fun q=>T q∧q<w5.heap.size,hp.2.2.1,hlab2.bt RLb.good hset fun b hb hz=>⟨fun ht=>?_,fun e=>?_⟩,hp.2.2.2.1,fun q hq=>⟨(hT q hq.1).1,(hT q hq.1).2.1,fun e=>?_⟩,fun q hq e=>?_,hmo.imp id ?_⟩,hset⟩
 ·rcases hz with hz | hz
  ·exact (hT b ht.1).2.2 hz
  ·have:=(hT b ht.1).1;omega
 ·rcases hz with hz | hz
  ·exact hap b e hz
  ·have:=(hlab.own_lt e).1;omega
 ·rcases hat q e with h | h
  ·exact (hT q hq.1).2.2 h
  ·omega
 ·rcases hat q e with h | h
  ·exact hap q hq h
  ·have:=(hlab.own_lt hq).2;omega
 ·rintro ⟨m,rfl,hm,hmap⟩
  refine ⟨m,rfl,hm,hmap.move (hset.block m hmap.lt ?_)⟩
  rintro (h | h)
  ·obtain ⟨es',c',ks,h1,_⟩:=hmap;exact qjs hed h1 h
  ·omega
def AddPost (base B:Nat) (ls:List Lb) (es:List Ed) (x:Lb) (f t:Int) (w:World) (e:Ending) (w':World):Prop:=e = .returned (.tuple #[])∧∃ ve',qcu base B (qc3 ls x) (es++[⟨f,(ls.idxOf x:Int),t⟩]) ve' w'∧Bt (fun q=>q=B∨base≤q) w w'
set_option maxHeartbeats 1000000 in
set_option maxRecDepth 100000 in
theorem add_c (S:Nat→Prop) (base B:Nat) (ls:List Lb) (es:List Ed) (ve:Value) (x:Lb) (f t:Int) (hf:I64 f) (ht:I64 t) (hok:qax x=true) (hoks:∀ y∈ls,qax y=true) (hsz:x.size≤1000000000) (hlen:ls.length≤1000000) (helen:es.length≤1000000) (cs:List Value) (w:World) (hS:∀ q,S q→q<base∧q≠B) (hbase:base≤w.heap.size)
  (hA:qcu base B ls es ve w) (hx:RLb S w x cs):Calls Tryz.prog 204 #[.pointer (some ⟨B,0,none⟩),.int .i64 f,.agg cs.toArray,.int .i64 t] w (AddPost base B ls es x f t w):=by
 have hB:=hA.lt
 obtain ⟨i1,v,rfl,hv⟩:=id hx
 obtain ⟨Ax,cx,rfl,_,_⟩:=hv.val
 have hidx:(ls.idxOf x:Int)≤1000000:=by have:=List.idxOf_le_length (a:=x) (l:=ls);omega
 have hI:I64 (ls.idxOf x:Int):=by unfold I64;omega
 have hed:qab REd 3 88 base (fun _=>False) w es ve:=by obtain ⟨mo,vl,T,_,_,h,_⟩:=hA.ex;exact h
 have hBl:B<w.heap.size:=by omega
 have hve:=fun q hq=>hed.own_lt (b:=q) hq
 obtain ⟨A,c0,hve0,_⟩:=(hed.sl REd.good (by decide)).val
 subst hve0
 have a2:=Ext.keep ((Ext.refl w).alloc (.cells #[.int .i64 x.g,.slice Ax x.v.length cx] 61)).drew hA.at
 have hnum:=fun WX (h:Ext w WX)=>number_c S base B ls es (.slice A es.length c0) x hok hoks hsz hlen _ w WX hS (Nat.le_trans hbase h.size) hA h (RLb.good.bel hx h)
 have key:∀ (WX w5:World) (e:Ending),Ext w WX→NumPost base w.heap.size B ls es (.slice A es.length c0) x WX e w5 →
   e = .returned (.int .i64 (ls.idxOf x:Int))∧w5.cell? ⟨B,2,none⟩=some (.slice A es.length c0)∧Bt (fun q=>q=B∨base≤q∧q<w.heap.size) WX w5∧∃ g8 c8 w8,(Builtin.append_ #[23,23] 23 #[.slice A es.length c0,.slice (some ⟨w5.heap.size,0,none⟩) 1 1]).run Tryz.prog (w5.alloc (.cells #[.int .i64 f,.int .i64 (ls.idxOf x:Int),.int .i64 t] 88)) = .ok (.slice (some ⟨g8,0,none⟩) (es.length+1) c8) w8 ∧
    Bt (fun q=>(Value.slice A es.length c0).ownBlock=some q) (w5.alloc (.cells #[.int .i64 f,.int .i64 (ls.idxOf x:Int),.int .i64 t] 88)) w8∧w8.frozen? ⟨B,2,none⟩=false ∧
    Hid (qcu base B (qc3 ls x) (es++[⟨f,(ls.idxOf x:Int),t⟩]) (.slice (some ⟨g8,0,none⟩) (es.length+1) c8) (w8.setCell ⟨B,2,none⟩ (.slice (some ⟨g8,0,none⟩) (es.length+1) c8))∧Bt (fun q=>q=B∨base≤q) w (w8.setCell ⟨B,2,none⟩ (.slice (some ⟨g8,0,none⟩) (es.length+1) c8))):=fun WX w5 e hX h=>by
  obtain ⟨he,hA5,hb5⟩:=h
  have hed5:qab REd 3 88 base (fun _=>False) w5 es (.slice A es.length c0):=by obtain ⟨mo,vl,T,_,_,h,_⟩:=hA5.ex;exact h
  have hz5:=hb5.size
  have hzX:=hX.size
  obtain ⟨g8,c8,w8,hr8,ho8,hb8,ha8,hbA⟩:=qcy REd.good (by decide) base 88 23 (.agg #[.int .i64 0,.int .i64 0,.int .i64 0]) 24 Tryz.underlying23 ql6 rfl (by decide) (fun _=>False) w5 es (.slice A es.length c0) ⟨f,(ls.idxOf x:Int),t⟩ [.int .i64 f,.int .i64 (ls.idxOf x:Int),.int .i64 t]
   hed5 ⟨hf,hI,ht,rfl⟩ (by omega) helen
  have hp:=hA5.pushE ho8 hb8 (fun q hq=>by
    simp only [Value.ownBlock,Option.some.injEq] at hq
    subst hq
    exact ha8)
  refine ⟨he,hA5.at,hb5,g8,c8,w8,hr8,hbA,hp.2.1,hp.2.2.1,(hX.bt.trans (hb5.mono fun q _ h=>h.imp id fun h=>h.1)).trans (hp.2.2.2.mono fun q _ h=>?_)⟩
  rcases h with h | h
  ·exact .inr (hed5.own_lt h).1
  ·exact .inl h
 have HK:=Hd key
 have hn1:¬ (Value.slice A es.length c0).ownBlock=some B:=fun e=>by have:=(hve _ e).1;omega
 have hn2:¬ (Value.slice A es.length c0).ownBlock=some w.heap.size:=fun e=>by have:=(hve _ e).2;omega
 have hn3:¬ (w.heap.size=B∨base≤w.heap.size∧w.heap.size<w.heap.size):=by omega
 clear hx hv hed hve key hA hidx hI
 go_enter Tryz.func204,Tryz.ntmps204
 go_wp2_with fail
 refine qfi (fun W=>W.cell? ⟨B,2,none⟩=some (.slice A es.length c0)∧W.cell? ⟨w.heap.size,0,none⟩=some (.int .i64 x.g)∧W.cell? ⟨w.heap.size,1,none⟩=some (.slice Ax x.v.length cx)) (by kernel_rfl) (by rfl) (by kernel_rfl) ⟨a2,by go_simp,by go_simp⟩ (fun hHeld=>?_)
 dsimp only [List.dropLast,List.getLastD,List.getLast?,List.getLast]
 (refine tk 0 ?_;try simp only [qae])
 (refine tk 1 ?_;try simp only [qae])
 (refine tk 2 ?_;try simp only [qae])
 (refine tk 3 ?_;try simp only [qae])
 (refine tk 4 ?_;try simp only [qae])
 (refine tk 5 ?_;try simp only [qae])
 (refine tk 6 ?_;try simp only [qae])
 (refine tk 7 ?_;try simp only [qae])
 (refine tk 9 ?_;try simp only [qae])
 refine wpAnyH_ready (rs:=[8]) (by kernel_rfl) (by simp) ?_
 refine AllReadyH.cons rfl (fun K hK=>?_) AllReadyH.nil
 go_simp
 refine (hnum _ bel).mono ?_
 intro e w5 h5
 obtain ⟨rfl,k5,b5,g8,c8,w8,hr8,hb8,f8,fin8⟩:=HK.out _ _ _ bel h5
 refine hK.out _ _ ⟨k5,b5.cell hHeld.2.1 hn3,b5.cell hHeld.2.2 hn3⟩ (fun hHeld5=>?_)
 clear hK K h5
 try simp only [qae]
 (refine tk 10 ?_;try simp only [qae])
 refine wpAnyH_ready (rs:=[11]) (by kernel_rfl) (by simp) ?_
 refine AllReadyH.cons rfl (fun K hK=>?_) AllReadyH.nil
 go_simp
 have hHeld6:=Ext.k3 ((Ext.refl w5).alloc (.cells #[.int .i64 f,.int .i64 (ls.idxOf x:Int),.int .i64 t] 88)) hHeld5
 refine hK.out _ _ hHeld6 (fun _=>?_)
 clear hK K
 try simp only [qae]
 refine wpAnyH_ready (rs:=[12]) (by kernel_rfl) (by simp) ?_
 refine AllReadyH.cons rfl (fun K hK=>?_) AllReadyH.nil
 refine qdj rfl _ _ _ rfl _ _ _ rfl rfl hr8 ?_
 refine hK.out _ _ ⟨hb8.cell hHeld6.1 hn1,hb8.cell hHeld6.2.1 hn2,hb8.cell hHeld6.2.2 hn2⟩ (fun hHeld8=>?_)
 clear hK K
 try simp only [qae]
 (refine tk 13 ?_;try simp only [qae])
 (refine tk 14 ?_;try simp only [qae])
 refine wpAnyH_done (by kernel_rfl) ?_ _
 show Oper.wp _ _ _ _ _ _
 have k8:=hHeld8.1
 go_simp
 go_wp2_with fail
 go_end0
 exact ⟨rfl,_,fin8.out.1,fin8.out.2⟩
end
end Go.Proofs.YtegenalcheooeaaGreat
