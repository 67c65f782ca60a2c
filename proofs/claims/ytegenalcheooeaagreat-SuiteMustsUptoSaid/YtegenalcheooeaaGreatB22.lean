/- Of the proof of a law of the suites: Places. -/
import Derived.Test.YtegenalcheooeaaGreatB14
import Derived.Test.YtegenalcheooeaaGreatB21
set_option linter.unusedSectionVars false
set_option linter.unusedSimpArgs false
set_option linter.unusedVariables false
namespace Go.Proofs.YtegenalcheooeaaGreat
open Go.RowKit
attribute [local go_sem] cell?_exto
section
open Go.Shelf
structure Pl where
 tr:List Lb
 st:List Int
def RPl:Rdr Pl:=fun S w x cs=>∃ v u,cs=[v,u]∧qaa S w x.tr [v]∧RSl qac 1 S w x.st [u]
theorem RPl.good:Good RPl 2:={
 len:=by rintro S w x cs ⟨v,u,rfl,_⟩;rfl
 one:=by
  rintro S w t cs ⟨v,u,rfl,hv,hu⟩ y hy
  simp at hy
  rcases hy with rfl | rfl
  ·exact hv.oneCell
  ·exact hu.oneCell
 move:=by rintro S w w' x cs ⟨v,u,rfl,hv,hu⟩ hk;exact ⟨v,u,rfl,qaa.good.move hv hk,(RSl.good qac.good).move hu hk⟩
 mono:=by rintro S S' w x cs ⟨v,u,rfl,hv,hu⟩ hs;exact ⟨v,u,rfl,qaa.good.mono hv hs,(RSl.good qac.good).mono hu hs⟩ }
def qbu (s:Sy) (p:Pl) (x:Lb):List Pl:=if qa0 x.g=true∧0<(qa7 s x p.st).length then [⟨p.tr++[x],qa7 s x p.st⟩] else []
def plRow (s:Sy) (p:Pl):List Pl:=s.ls.flatMap (qbu s p)
def qb5 (s:Sy) (lev:List Pl):List Pl:=lev.flatMap (plRow s)
def qca (s:Sy):Nat→List Pl→List Pl→Option (List Pl)
 | 0,out,_=>some out
 | d+1,out,lev=>if 4000<out.length+(qb5 s lev).length then none else qca s d (out++qb5 s lev) (qb5 s lev)
def qfk (s:Sy) (depth:Nat):Option (List Pl):=qca s depth [⟨[],qap s [0]⟩] [⟨[],qap s [0]⟩]
def qen {α:Type} (R:Rdr α) (k:Nat) (S:Nat→Prop) (w:World) (xs:List α) (v:Value):Prop :=
 ∃ A c,v = .slice A xs.length c∧xs.length≤c∧c≤9223372036854775807∧(xs=[]∨∃ b off,A=some ⟨b,off,none⟩∧b<w.heap.size∧qcp R k S w b off xs)
theorem qen.bel {α:Type} {R:Rdr α} {k:Nat} (hR:Good R k) {S:Nat→Prop} {w w':World} {xs:List α} {v:Value} (h:qen R k S w xs v) (he:Ext w w'):qen R k S w' xs v:=by
 obtain ⟨A,c,rfl,h1,h0,h2⟩:=h
 refine ⟨A,c,rfl,h1,h0,h2.imp id ?_⟩
 rintro ⟨b,off,rfl,hb,hr⟩
 exact ⟨b,off,rfl,Nat.lt_of_lt_of_le hb he.size,hr.imp (fun x _ cs h=>hR.bel h he) ((Ext.kp (S:=fun _=>True) he).block b hb trivial)⟩
theorem qen.get {α:Type} {R:Rdr α} {k:Nat} {S:Nat→Prop} {w:World} {xs:List α} {A:Option Addr} {n c:Nat} (h:qen R k S w xs (.slice A n c)) (i:Nat) (hi:i<xs.length) :
  ∃ b off cs,A=some ⟨b,off,none⟩∧b<w.heap.size∧cs.length=k∧R S w xs[i] cs∧qe3 w b (off+i*k) cs:=by
 obtain ⟨A',c',hv,h1,h0,h2⟩:=h
 injection hv with hv
 rcases h2 with rfl | ⟨b,off,rfl,hb,hr⟩
 ·simp at hi
 ·obtain ⟨cs,h3,h4,h5⟩:=hr.get i hi
  exact ⟨b,off,cs,hv,hb,h3,h4,h5⟩
theorem qab.slx {α:Type} {R:Rdr α} {k base:Nat} {e:TypeId} {T:Nat→Prop} {w:World} {xs:List α} {v:Value} (h:qab R k e base T w xs v):qen R k (fun b=>T b∧v.ownBlock≠some b) w xs v:=by
 obtain ⟨news,⟨h1,h2⟩,h3⟩:=h
 rcases h2 with ⟨rfl,h2⟩ | ⟨g,cap,cur,rfl,hb,hh,hc,hm,hs,ht⟩
 ·have:xs=[]:=List.length_eq_zero_iff.1 h2
  subst this
  exact ⟨none,0,rfl,Nat.le_refl _,by decide,.inl rfl⟩
 ·refine ⟨some ⟨g,0,none⟩,cap,rfl,hc,hm,.inr ⟨g,0,rfl,(Array.getElem?_eq_some_iff.1 hh).1,?_⟩⟩
  refine Flat.row (cs:=news) h3 fun i u hi=>?_
  have hi':cur[i]? = some u:=by
   rw [← ht,List.getElem?_take] at hi
   split at hi
   ·simpa using hi
   ·cases hi
  rw [Nat.zero_add]
  exact (cell_of_row w g i cur e (0,0) hh).trans hi'
theorem qen.turn {α:Type} {R:Rdr α} {k:Nat} (hR:Good R k) {S S' Z:Nat→Prop} {w w':World} {xs:List α} {v:Value} (h:qen R k S w xs v) (hb:Bt Z w w') (hv:∀ b,Z b→v.ownBlock≠some b) (hoff:∀ b off c n,v = .slice (some ⟨b,off,none⟩) n c→off=0)
  (hS:∀ b,b<w.heap.size→S b→¬ Z b∧S' b):qen R k S' w' xs v:=by
 obtain ⟨A,c,rfl,h1,h0,h2⟩:=h
 refine ⟨A,c,rfl,h1,h0,h2.imp id ?_⟩
 rintro ⟨b,off,rfl,hbl,hr⟩
 obtain rfl:=hoff _ _ _ _ rfl
 refine ⟨b,0,rfl,Nat.lt_of_lt_of_le hbl hb.size,hr.imp (fun x _ cs hx=>?_) (hb.block b hbl fun hz=>hv b hz rfl)⟩
 exact hR.mono (S:=fun b=>S b∧b<w.heap.size) (hR.move (hR.mono hx fun b h1 h2=>⟨h2,h1⟩) (hb.kp fun b h1 h2=>(hS b h1 h2.1).1)) fun b _ hb'=>(hS b hb'.2 hb'.1).2
theorem run_append_nothing {P:Program} (w:World) (t ty e:TypeId) (i:TypeInfo) (z:Value) (ht:P.underlying t=some (.slice e)) (hi:P.info? e=some i) (hz:i.zero=some z) (hs:0<i.size) (A:Option Addr) (n c:Nat) (hnc:n≤c) (hc:c≤9223372036854775807) :
  (Builtin.append_ #[t,t] ty #[.slice A n c,.slice none 0 0]).run P w = .ok (.slice A n c) w:=by
 have h1:¬ (9223372036854775807<(n:Int)):=by omega
 cases A <;> simp [Builtin.append_,run_underlying ht,sizeOf,typeInfo,zeroValue,hi,hz,Builtin.lenOf,hnc,h1,Builtin.firstCells,storeCells]
theorem infoPla:(Tryz.prog.info? 204).map (fun i=>(i.zero,i.size,i.bytes))=some (some (.agg #[.slice none 0 0,.slice none 0 0]),2,48):=by kernel_rfl
theorem qva {base:Nat} {S T:Nat→Prop} {w:World} {xs:List Int} {v:Value} (h:qab qac 1 3 base T w xs v) (hS:∀ b,v.ownBlock=some b→S b):RSl qac 1 S w xs [v]:=by
 obtain ⟨A,c,hv,h1,h2,h3⟩:=h.sl qac.good (by decide)
 refine ⟨A,c,hv,h1,h2,?_⟩
 obtain ⟨news,hr,_⟩:=h
 rcases h3 with h3 | ⟨b,off,rfl,hb,_,hrow⟩
 ·exact .inl h3
 ·injection hv with hv
  subst hv
  rcases hr.2 with ⟨h4,_⟩ | ⟨g,cap,cur,h4,_⟩
  ·simp at h4
  ·simp only [Value.slice.injEq,Option.some.injEq,Addr.mk.injEq] at h4
   obtain ⟨⟨rfl,rfl,_⟩,_⟩:=h4
   exact .inr ⟨b,0,rfl,hb,hS b rfl,hrow.imp (fun x _ cs h=>h) rfl⟩
theorem plApp (base:Nat) (T:Nat→Prop) (w5 w6 Wa:World) (xs:List Pl) (st:List Int) (tr:List Lb) (x:Lb) (vn vst v6 vx:Value) (Lx b6 bs:Nat) (hn:qab RPl 2 204 base T w5 xs vn) (hst:qab qac 1 3 bs (fun _=>False) w5 st vst)
  (ho:qab RLb 2 61 b6 (fun b=>T b∧b<w5.heap.size∧vn.ownBlock≠some b) w6 tr v6) (h56:Ext w5 w6) (h6a:Ext w6 Wa) (h5b:w5.heap.size≤b6) (hb6:b6≤w6.heap.size) (hbase:base≤w5.heap.size) (hTn:∀ b,w5.heap.size≤b→T b) (hTs:∀ b,bs≤b→T b) (hbn:∀ b,vn.ownBlock=some b→vst.ownBlock≠some b)
  (hcc:∀ j u,[Value.int .i64 x.g,vx][j]? = some u→Wa.cell? ((⟨Lx,0,none⟩:Addr).add j)=some u) (hx:RLb (fun b=>T b∧b<w5.heap.size∧vn.ownBlock≠some b) w5 x [.int .i64 x.g,vx]) (hlt:tr.length≤1000) (hlx:xs.length≤1000000) :
  ∃ g7 c7 w7,((Builtin.append_ #[22,22] 22 #[v6,.slice (some ⟨Lx,0,none⟩) 1 1]).run Tryz.prog Wa = .ok (.slice (some ⟨g7,0,none⟩) (tr.length+1) c7) w7)∧Ext w5 w7 ∧
   ∃ g8 c8 w8,((Builtin.append_ #[200,200] 200 #[vn,.slice (some ⟨w7.heap.size,0,none⟩) 1 1]).run Tryz.prog (w7.alloc (.cells #[.slice (some ⟨g7,0,none⟩) (tr.length+1) c7,vst] 204)) = .ok (.slice (some ⟨g8,0,none⟩) (xs.length+1) c8) w8) ∧
    qab RPl 2 204 base T w8 (xs++[⟨tr++[x],st⟩]) (.slice (some ⟨g8,0,none⟩) (xs.length+1) c8)∧Bt (fun b=>vn.ownBlock=some b) w5 w8∧(vn.ownBlock=some g8∨w5.heap.size≤g8):=by
 obtain ⟨i61,p1,hzz⟩:=Option.map_eq_some_iff.1 qi4
 simp only [Prod.mk.injEq] at hzz
 obtain ⟨p2,p3,p4⟩:=hzz
 obtain ⟨i204,q1,hzz⟩:=Option.map_eq_some_iff.1 infoPla
 simp only [Prod.mk.injEq] at hzz
 obtain ⟨q2,q3,q4⟩:=hzz
 have hnb:=fun b hb=>hn.own_lt (b:=b) hb
 have hsb:=fun b hb=>hst.own_lt (b:=b) hb
 have h5a:=h56.trans' h6a
 have ho':=ho.ext RLb.good h6a
 have hob:=fun b hb=>ho'.own_lt (b:=b) hb
 obtain ⟨news,hrow,hF⟩:=ho'
 obtain ⟨v7,w7,hr7,hown7,hg7,_,hat7⟩:=run_append_own_at (P:=Tryz.prog) Wa b6 22 22 61 i61 _ 2 32 Tryz.underlying22 p1 p2 p3 p4 rfl (by decide) _ _ _ hrow ⟨Lx,0,none⟩ 1 1 [.int .i64 x.g,vx] rfl hcc (RLb.good.one hx) (by unfold maxLen;omega) (by omega) (Nat.le_trans hb6 h6a.size)
 have hG:Flat RLb 2 (fun b=>(T b∧b<w5.heap.size∧vn.ownBlock≠some b)∧v6.ownBlock≠some b) Wa [x] [.int .i64 x.g,vx]:=Flat.single (RLb.good.bel (RLb.good.mono hx fun b _ hb=>⟨hb,fun e=>by have:=(hob b e).1;omega⟩) h5a) rfl
 have hp7:=qab.push RLb.good hF hG hown7 hg7 hat7
 have h57:Ext w5 w7:=Below.grown h5a hg7 h5a.size fun b hb=>by have:=(hob b hb).1;omega
 obtain ⟨g7,c7,rfl⟩:=ownsRow_succ hown7
 refine ⟨g7,c7,w7,hr7,h57,?_⟩
 have h58:=h57.alloc (.cells #[.slice (some ⟨g7,0,none⟩) (tr.length+1) c7,vst] 204)
 have hn':=hn.ext RPl.good h58
 obtain ⟨news2,hrow2,hF2⟩:=hn'
 have hcc2:=qei w7 #[.slice (some ⟨g7,0,none⟩) (tr.length+1) c7,vst] 204
 have h1c:vst.oneCell'=true:=(hst.sl qac.good (by decide)).oneCell
 obtain ⟨v8,w8,hr8,hown8,hg8,_,hat8⟩:=run_append_own_at (P:=Tryz.prog) (w7.alloc (.cells #[.slice (some ⟨g7,0,none⟩) (tr.length+1) c7,vst] 204)) base 200 200 204 i204 _ 2 48 Tryz.underlying200 q1 q2 q3 q4 rfl (by decide) _ _ _ hrow2 ⟨w7.heap.size,0,none⟩ 1 1 [.slice (some ⟨g7,0,none⟩) (tr.length+1) c7,vst] rfl hcc2 (fun u hu=>by
  simp only [List.mem_cons,List.not_mem_nil,or_false] at hu
  rcases hu with rfl | rfl
  ·rfl
  ·exact h1c) (by unfold maxLen;omega) (by omega) (by have:=h58.size;omega)
 obtain ⟨g8,c8,rfl⟩:=ownsRow_succ hown8
 have hlen7:(tr++[x]).length=tr.length+1:=by simp
 have hy:RPl (fun b=>T b∧vn.ownBlock≠some b) (w7.alloc (.cells #[.slice (some ⟨g7,0,none⟩) (tr.length+1) c7,vst] 204)) ⟨tr++[x],st⟩ [.slice (some ⟨g7,0,none⟩) (tr.length+1) c7,vst]:=by
  refine ⟨_,_,rfl,qaa.good.bel (qaa.good.mono (hp7.sl RLb.good (by decide)) fun b _ hb=>?_) ((Ext.refl _).alloc _),(RSl.good qac.good).bel (qva hst fun b hb=>⟨hTs b (hsb b hb).1,fun e=>hbn b e hb⟩) h58⟩
  rcases hb with h | h
  ·exact ⟨h.1,h.2.2⟩
  ·exact ⟨hTn b (by omega),fun e=>by have:=(hnb b e).2;omega⟩
 refine ⟨g8,c8,w8,hr8,?_,h58.bt.trans ((Bt.of_grown hg8).mono fun b _ h=>h.symm),?_⟩
 ·have:=qab.push RPl.good hF2 (Flat.single hy rfl) hown8 hg8 hat8
  exact this
 ·have hob8:(Value.slice (some ⟨g8,0,none⟩) (xs.length+1) c8).ownBlock=some g8:=rfl
  rw [hob8] at hat8
  rcases hat8 with h | h
  ·exact .inl h.symm
  ·right
   have:=h58.size
   injection h with h
   omega
def PlPost (r:Option (List Pl)) (w:World) (e:Ending) (w':World):Prop :=
 ∃ A c,e = .returned (.tuple #[.slice A (qa2 r).length c,.int .i64 (qes r)])∧qen RPl 2 (fun _=>True) w' (qa2 r) (.slice A (qa2 r).length c)∧Ext w w'
set_option maxHeartbeats 1000000 in
set_option maxRecDepth 100000 in
theorem places_c (S:Nat→Prop) (s:Sy) (hok:qai s) (g:Nat) (depth:Nat) (w:World) (hS:qau S w g s) (hd:depth≤8) :
  Calls Tryz.prog 160 #[.pointer (some ⟨g,0,none⟩),.int .i64 (depth:Int)] w (PlPost (qfk s depth) w):=by
 have HS:Hid (qau (fun b=>b<w.heap.size) w g s):=hS.mono fun b hb _=>hb
 clear hS
 obtain ⟨i3,hi3,hzz⟩:=Option.map_eq_some_iff.1 infoPla
 simp only [Prod.mk.injEq] at hzz
 obtain ⟨hz0,hz1,hz2⟩:=hzz
 have hc2:=(qlg (fun _=>True) s hok g [0] _ _ ((HS.out.mono fun _ _ _=>trivial).bel ((Ext.refl w).alloc _)) (qjy w 0 ⟨by decide,by decide⟩ trivial) (by decide)).mono fun e w' h=>qfy.at h (b':=w.heap.size) (by simp)
 go_enter Tryz.func160,Tryz.ntmps160
 go_wp2_with fail
 refine hc2.mono ?_
 rintro e w1 ⟨A1,c1,rfl,ho1,hx1⟩
 have hX1:Ext w w1:=Ext.trans' ((Ext.refl w).alloc _) hx1
 have hpl0:RPl (fun b=>b<w1.heap.size) w1 ⟨[],qap s [0]⟩ [.slice none 0 0,.slice A1 (qap s [0]).length c1] :=
  ⟨_,_,rfl,⟨none,0,rfl,Nat.le_refl _,by decide,.inl rfl⟩,(RSl.good qac.good).mono (ho1.sl qac.good (by decide)) fun b hb _=>hb⟩
 have hlit:qab RPl 2 204 w.heap.size (fun b=>b<w1.heap.size) (w1.alloc (.cells #[.slice none 0 0,.slice A1 (qap s [0]).length c1] 204)) [⟨[],qap s [0]⟩] (.slice (some ⟨w1.heap.size,0,none⟩) 1 1):=by
  have h1:=World.ownsRow_lit (base:=w.heap.size) (e:=204) (size:=2) w1 #[.slice none 0 0,.slice A1 (qap s [0]).length c1] 1 hX1.size (by decide) rfl
  refine ⟨_,h1,Flat.single (RPl.good.bel (RPl.good.mono hpl0 fun b hb _=>⟨hb,?_⟩) ((Ext.refl _).alloc _)) rfl⟩
  simp [Value.ownBlock]
  omega
 have hst0:(qap s [0]).length≤1000000:=by have h:=qju s [0];have:=qf8 s [0];have:=hok.2.2.2.1;simp only [List.length_cons,List.length_nil] at h;omega
 have HLIT:=Hd hlit
 have hv0:Hid (qfk s depth=qca s depth [⟨[],qap s [0]⟩] [⟨[],qap s [0]⟩]):=rfl
 have hXl:=hX1.alloc (.cells #[.slice none 0 0,.slice A1 (qap s [0]).length c1] 204)
 clear hpl0 hlit ho1 hc2
 go_wp2_with fail
 go_loopw [6,7,21] (fun vo vl vi wr=>∃ (k:Nat) (out lev:List Pl) (A:Option Addr) (c:Nat) (A2:Option Addr) (c2:Nat),k≤depth∧vi = .int .i64 k∧vo = .slice A out.length c∧vl = .slice A2 lev.length c2∧qab RPl 2 204 w.heap.size (fun _=>True) wr out (.slice A out.length c)∧qen RPl 2 (fun b=>(Value.slice A out.length c).ownBlock≠some b) wr lev (.slice A2 lev.length c2) ∧
  Hid (out.length≤4000∧lev.length≤4000∧(∀ p∈lev,p.tr.length≤k∧p.st.length≤1000000)∧qca s (depth-k) out lev=qfk s depth)∧Ext w wr) (fun _ _ vi _=>depth-(intOf vi).toNat)
 case atStart =>
  refine ⟨0,[⟨[],qap s [0]⟩],[⟨[],qap s [0]⟩],some ⟨w1.heap.size,0,none⟩,1,some ⟨w1.heap.size,0,none⟩,1,Nat.zero_le _,rfl,rfl,rfl,HLIT.out.mono RPl.good fun _ _ _=>trivial,?_,⟨by simp,by simp,?_,rfl⟩,hXl⟩
  ·obtain ⟨A,c,h1,h2,h3,h4⟩:=HLIT.out.slx
   refine ⟨A,c,h1,h2,h3,h4.imp id ?_⟩
   rintro ⟨b,off,h5,h6,h7⟩
   exact ⟨b,off,h5,h6,h7.imp (fun y _ cs hy=>RPl.good.mono hy fun q _ hq=>hq.2) rfl⟩
  ·intro p hp
   rw [List.mem_singleton.1 hp]
   exact ⟨Nat.le_refl _,hst0⟩
 case round =>
  obtain ⟨k,out,lev,A,c,A2,c2,hk,rfl,rfl,rfl,hown,hlev,hfacts,hE⟩:=hrel
  by_cases hlt:k<depth
  ·obtain ⟨wb,rfl⟩:∃ wb,wb=wr:=⟨_,rfl⟩
   have hob:=fun q hq=>hown.own_lt (b:=q) hq
   obtain ⟨T,hT⟩:∃ T:Nat→Prop,T=fun b=>(Value.slice A out.length c).ownBlock≠some b:=⟨_,rfl⟩
   rw [← hT] at hlev
   have HOUT:=Hd hown
   have HLEV:=Hd hlev
   have hwb:=hE.size
   obtain ⟨Al,cl,hlv,hlc1,hlc2⟩:∃ A c,Value.slice A2 lev.length c2 = .slice A lev.length c∧lev.length≤c∧c≤9223372036854775807:=by obtain ⟨A,c,h1,h2,h3,_⟩:=hlev;exact ⟨A,c,h1,h2,h3⟩
   injection hlv with hl1 _ hl2
   subst hl1 hl2
   obtain ⟨vL,uE,mM,fM,s1,s2,s3,s4,s5,s6,s7,s8⟩:=HS.out.ex
   obtain ⟨AL,cL,rfl,hcL,hcL0⟩:=s2.val
   have gL:wb.cell? ⟨g,1,none⟩=some (.slice AL s.ls.length cL):=Ext.keep hE (cell_of_row w _ 1 _ _ _ s1)
   have hgl:g<w.heap.size:=(Array.getElem?_eq_some_iff.1 s1).1
   have HLS:=Hd (qaa.good.bel s2 hE)
   have hf1:=hfacts.out.1
   have hf2:=hfacts.out.2.1
   clear hown hlev s1 s2 s3 s4 s5 s6 s7 s8
   go_wp2_with fail
   go_loopw [8,25] (fun vn vi wr=>∃ (i:Nat) (A':Option Addr) (c':Nat),i≤lev.length∧vi = .int .i64 i∧vn = .slice A' (qb5 s (lev.take i)).length c'∧qab RPl 2 204 wb.heap.size T wr (qb5 s (lev.take i)) (.slice A' (qb5 s (lev.take i)).length c')∧Hid (out.length+(qb5 s (lev.take i)).length≤4000)∧Ext wb wr) (fun _ vi _=>lev.length-(intOf vi).toNat)
   case atStart=>exact ⟨0,none,0,Nat.zero_le _,rfl,rfl,qab.nil ..,(by show _≤_;simp [qb5];omega),Ext.refl _⟩
   case round =>
    obtain ⟨i,A',c',hi,rfl,rfl,hnx,hsum,hE2⟩:=hrel
    by_cases hlt2:i<lev.length
    ·obtain ⟨b,off,cs,rfl,hb,hl,hr,hcell⟩:=HLEV.out.get i hlt2
     obtain ⟨tp,sp,rfl,htp,hsp⟩:=id hr
     have a0:=Ext.keep hE2 (hcell.get 0 _)
     have a1:=Ext.keep hE2 (hcell.get 1 _)
     simp only [Nat.add_zero] at a0
     have hpf:=hfacts.out.2.2.1 _ (List.getElem_mem hlt2)
     obtain ⟨p,hp⟩:∃ p,lev[i]=p:=⟨_,rfl⟩
     obtain ⟨rj,hrj⟩:∃ rj:Nat→List Pl,rj=fun j=>qb5 s (lev.take i)++(s.ls.take j).flatMap (qbu s p):=⟨_,rfl⟩
     have hr0:Hid (rj 0=qb5 s (lev.take i)):=by show _=_;rw [hrj];simp
     have hr1:Hid (∀ j,(h:j<s.ls.length)→rj (j+1)=rj j++qbu s p s.ls[j]):=by
      intro j h
      rw [hrj]
      simp only
      rw [List.take_succ_eq_append_getElem h,List.flatMap_append,List.append_assoc]
      simp
     have hr2:Hid (rj s.ls.length=qb5 s (lev.take (i+1))):=by
      show _=_
      rw [List.take_succ_eq_append_getElem hlt2,hp,hrj]
      simp [qb5,plRow]
     have hr3:Hid (∀ j,j≤s.ls.length→(rj j).length≤(qb5 s lev).length):=by
      intro j hj
      have h1:qb5 s lev=rj s.ls.length++qb5 s (lev.drop (i+1)):=by
       rw [hr2.out,qb5,qb5,qb5,← List.flatMap_append,List.take_append_drop]
      have h2:rj s.ls.length=rj j++(s.ls.drop j).flatMap (qbu s p):=by
       rw [hrj]
       simp only [List.take_length]
       rw [List.append_assoc,← List.flatMap_append,List.take_append_drop]
      rw [h1,h2]
      simp only [List.length_append]
      omega
     rw [hp] at htp hsp hpf
     have HTP:=Hd htp
     have HSP:=Hd hsp
     obtain ⟨At,ct,rfl,_,_⟩:=htp.val
     obtain ⟨As,cs,rfl,_,_⟩:=hsp.val
     have HNX:=Hd hnx
     have hnb:=fun q hq=>hnx.own_lt (b:=q) hq
     obtain ⟨wc,rfl⟩:∃ wc,wc=wr:=⟨_,rfl⟩
     have hgl2:g<wc.heap.size:=by have:=hE2.size;omega
     have gL2:=Ext.keep hE2 gL
     have hXc:=hE2.alloc (.cells #[.slice At p.tr.length ct,.slice As p.st.length cs] 204)
     have hbp:=World.alloc_heap_new wc (.cells #[.slice At p.tr.length ct,.slice As p.st.length cs] 204)
     have hbp0:=cell_of_row _ _ 0 _ _ _ hbp
     have hbp1:=cell_of_row _ _ 1 _ _ _ hbp
     clear hcell hl hr hrj hnx hp htp hsp hbp
     go_wp2_with fail
     go_loopw [8,35] (fun vn vi wr=>∃ (j:Nat) (A4:Option Addr) (c4:Nat),j≤s.ls.length∧vi = .int .i64 j∧vn = .slice A4 (rj j).length c4∧qab RPl 2 204 wb.heap.size T wr (rj j) (.slice A4 (rj j).length c4)∧(Value.slice A4 (rj j).length c4).ownBlock≠some wc.heap.size∧wr.cell? ⟨wc.heap.size,0,none⟩=some (.slice At p.tr.length ct)∧wr.cell? ⟨wc.heap.size,1,none⟩=some (.slice As p.st.length cs)∧Hid (out.length+(rj j).length≤4000)∧Ext wb wr) (fun _ vi _=>s.ls.length-(intOf vi).toNat)
     case atStart=>exact ⟨0,A',c',Nat.zero_le _,rfl,by rw [hr0.out],by rw [hr0.out];exact HNX.out.ext RPl.good ((Ext.refl _).alloc _),fun e=>by rw [hr0.out] at e;have:=(hnb _ e).2;omega,hbp0,hbp1,by rw [hr0.out];exact hsum.out,hXc⟩
     case round =>
      obtain ⟨j,A4,c4,hj,rfl,rfl,hnx,hno,c0,c1,hsum2,hE3⟩:=hrel
      by_cases hlt3:j<s.ls.length
      ·obtain ⟨b3,off3,cs3,rfl,hb3,hT3,hl3,hr,hcell⟩:=HLS.out.get j hlt3
       obtain ⟨hxi,vx,rfl,hvx⟩:=id hr
       have x0:=Ext.keep hE3 (hcell.get 0 _)
       have x1:=Ext.keep hE3 (hcell.get 1 _)
       simp only [Nat.add_zero] at x0
       obtain ⟨Ax,cx,rfl,_,_⟩:=hvx.val
       have hst4:=Hd (hr1.out j hlt3)
       have hup:=Hd (hr3.out (j+1) hlt3)
       obtain ⟨x,hxx⟩:∃ x,s.ls[j]=x:=⟨_,rfl⟩
       rw [hxx] at hr x0 x1
       have HST4:Hid (rj (j+1)=rj j++qbu s p x):=by show _=_;rw [hst4.out,hxx]
       have HRX:=Hd hr
       have HNX:=Hd hnx
       have hnb4:=fun q hq=>hnx.own_lt (b:=q) hq
       have hbl:=World.block_lt_of_cell? wr _ c0
       have hgl3:g<wr.heap.size:=by have:=hE3.size;omega
       have gL3:=Ext.keep hE3 gL
       have hvis:=qh5 x.g (.slice Ax x.v.length cx)
       clear hcell hl3 hT3 hr hvx hst4 hxx hnx
       by_cases hvb:qa0 x.g=true
       case neg =>
        have hst:Hid (rj (j+1)=rj j):=by show _=_;rw [HST4.out,qbu,if_neg fun h=>hvb h.1,List.append_nil]
        rw [eq_false_of_ne_true hvb] at hvis
        clear hvb
        go_wp2_with fail
        refine (hvis _).mono ?_
        rintro e w5 ⟨rfl,hx5⟩
        have hx5':=Ext.trans' ((Ext.refl wr).alloc _) hx5
        have c0':=Ext.keep hx5' c0
        have c1':=Ext.keep hx5' c1
        go_wp2_with fail
        go_roundw
        case rel=>exact ⟨j+1,A4,c4,by omega,by go_num,by rw [hst.out],by rw [hst.out];exact HNX.out.ext RPl.good hx5',by rw [hst.out];exact hno,c0',c1',by rw [hst.out];exact hsum2.out,hE3.trans' hx5'⟩
        case measure=>simp [intOf];omega
       rw [hvb] at hvis
       have hbeh:=fun W (hW:Ext wb W)=>qpd (fun _=>True) s hok g p.st x (.slice As p.st.length cs) (.slice Ax x.v.length cx) W ((HS.out.mono fun _ _ _=>trivial).bel (hE.trans' hW)) ((RSl.good qac.good).mono ((RSl.good qac.good).bel HSP.out hW) fun _ _ _=>trivial) (RLb.good.mono (RLb.good.bel HRX.out hW) fun _ _ _=>trivial) (by have:=hpf.2;omega)
       obtain ⟨st,hst⟩:∃ st,qa7 s x p.st=st:=⟨_,rfl⟩
       rw [hst] at hbeh
       by_cases hz:st.length=0
       ·have hsm:Hid (rj (j+1)=rj j):=by show _=_;rw [HST4.out,qbu,if_neg (by rw [hst];omega),List.append_nil]
        have hzd:=decide_eq_false (show ¬ (0:Int)<(st.length:Int) by omega)
        have hsd:out.length+(rj j).length≤4000:=hsum2.out
        clear hvb hst
        go_wp2_with fail
        refine (hvis _).mono ?_
        rintro e w5 ⟨rfl,hx5⟩
        have hx5':=Ext.trans' ((Ext.refl wr).alloc _) hx5
        have hbx:=World.alloc_heap_new wr (.cells #[.int .i64 x.g,.slice Ax x.v.length cx] 61)
        have d0:=Ext.keep hx5 (cell_of_row _ _ 0 _ _ _ hbx)
        have d1:=Ext.keep hx5 (cell_of_row _ _ 1 _ _ _ hbx)
        have c0':=Ext.keep hx5' c0
        have c1':=Ext.keep hx5' c1
        have hxb:Ext wb w5:=hE3.trans' hx5'
        have hbxl:wr.heap.size+1≤w5.heap.size:=by have:=hx5.size;simp at this;omega
        clear hbx
        go_wp2_with fail
        refine (hbeh _ hxb).mono ?_
        rintro e w6 h6
        obtain ⟨A6,c6,rfl,ho6,hx6⟩:=h6.at (b':=w5.heap.size) (Nat.le_refl _)
        have e0:=Ext.keep hx6 c0'
        have e1:=Ext.keep hx6 c1'
        clear h6 ho6
        go_wp2_with fail
        go_roundw
        case rel =>
         have hx56:=hx5'.trans' hx6
         exact ⟨j+1,A4,c4,by omega,by go_num,by rw [hsm.out],by rw [hsm.out];exact HNX.out.ext RPl.good hx56,by rw [hsm.out];exact hno,e0,e1,by rw [hsm.out];exact hsum2.out,hE3.trans' hx56⟩
        case measure=>simp [intOf];omega
       ·have hsm:Hid (rj (j+1)=rj j++[⟨p.tr++[x],st⟩]):=by show _=_;rw [HST4.out,qbu,if_pos ⟨hvb,by rw [hst];omega⟩,hst]
        have hzd:=decide_eq_true (show (0:Int)<(st.length:Int) by omega)
        clear hvb hst
        go_wp2_with fail
        refine (hvis _).mono ?_
        rintro e w5 ⟨rfl,hx5⟩
        have hx5':=Ext.trans' ((Ext.refl wr).alloc _) hx5
        have hbx:=World.alloc_heap_new wr (.cells #[.int .i64 x.g,.slice Ax x.v.length cx] 61)
        have d0:=Ext.keep hx5 (cell_of_row _ _ 0 _ _ _ hbx)
        have d1:=Ext.keep hx5 (cell_of_row _ _ 1 _ _ _ hbx)
        have c0':=Ext.keep hx5' c0
        have c1':=Ext.keep hx5' c1
        have hxb:Ext wb w5:=hE3.trans' hx5'
        have hbxl:wr.heap.size+1≤w5.heap.size:=by have:=hx5.size;simp at this;omega
        clear hbx
        go_wp2_with fail
        refine (hbeh _ hxb).mono ?_
        rintro e w6 h6
        obtain ⟨A6,c6,rfl,ho6,hx6⟩:=h6.at (b':=w5.heap.size) (Nat.le_refl _)
        have e0:=Ext.keep hx6 c0'
        have e1:=Ext.keep hx6 c1'
        have f0:=Ext.keep hx6 d0
        have f1:=Ext.keep hx6 d1
        have hx56:=hx5'.trans' hx6
        have hn6:=HNX.out.ext RPl.good hx56
        have hx6b:Ext wb w6:=hE3.trans' hx56
        have hsz6:=hx6.size
        obtain ⟨S6,hS6⟩:∃ S6:Nat→Prop,S6=fun b=>T b∧b<w6.heap.size∧(Value.slice A4 (rj j).length c4).ownBlock≠some b:=⟨_,rfl⟩
        have hTn:∀ b,w6.heap.size≤b→T b:=fun b hb=>by rw [hT];intro e;have:=(hob b e).2;have:=hx6b.size;omega
        have hTs:∀ b,w5.heap.size≤b→T b:=fun b hb=>by rw [hT];intro e;have:=(hob b e).2;have:=hxb.size;omega
        have hbn:∀ b,(Value.slice A4 (rj j).length c4).ownBlock=some b→(Value.slice A6 st.length c6).ownBlock≠some b:=fun b h1 h2=>by have:=(hnb4 b h1).2;have:=(ho6.own_lt h2).1;omega
        have hx6':RLb (fun b=>T b∧b<w6.heap.size∧(Value.slice A4 (rj j).length c4).ownBlock≠some b) w6 x [.int .i64 x.g,.slice Ax x.v.length cx]:=RLb.good.bel (RLb.good.mono HRX.out fun q hq h=>⟨by rw [hT];intro e;have h':q<w.heap.size:=h;have:=(hob q e).1;omega,by have:=hx6b.size;omega,fun e=>by have:=(hnb4 q e).1;omega⟩) hx6b
        have htp6:qaa S6 w6 p.tr [.slice At p.tr.length ct]:=by
         rw [hS6]
         exact qaa.good.bel (qaa.good.mono HTP.out fun q hq h=>⟨h,by have:=hx6b.size;omega,fun e=>by have:=(hnb4 q e).1;omega⟩) hx6b
        have hpl:p.tr.length≤1000:=by have:=hpf.1;omega
        have hrl:(rj j).length≤1000000:=by have:=hsum2.out;omega
        have hb6:wb.heap.size≤w6.heap.size:=hx6b.size
        have keyA:∀ (w7:World) (A7:Option Addr) (c7:Nat),qab RLb 2 61 (World.heap w6.drew).size S6 w7 p.tr (.slice A7 p.tr.length c7)→Ext w6.drew w7→(w7.cell? ⟨wc.heap.size,0,none⟩=some (.slice At p.tr.length ct)∧w7.cell? ⟨wr.heap.size,0,none⟩=some (.int .i64 x.g)∧w7.cell? ⟨wr.heap.size,1,none⟩=some (.slice Ax x.v.length cx)) ∧
          ∃ g8 c8 w8,(Builtin.append_ #[22,22] 22 #[.slice A7 p.tr.length c7,.slice (some ⟨w7.heap.size,0,none⟩) 1 1]).run Tryz.prog (w7.alloc (.cells #[.int .i64 x.g,.slice Ax x.v.length cx] 61)) = .ok (.slice (some ⟨g8,0,none⟩) (p.tr.length+1) c8) w8∧(w8.cell? ⟨wc.heap.size,0,none⟩=some (.slice At p.tr.length ct)∧w8.cell? ⟨wr.heap.size,0,none⟩=some (.int .i64 x.g)∧w8.cell? ⟨wr.heap.size,1,none⟩=some (.slice Ax x.v.length cx)) ∧
          ∃ g9 c9 w9,(Builtin.append_ #[200,200] 200 #[.slice A4 (rj j).length c4,.slice (some ⟨w8.heap.size,0,none⟩) 1 1]).run Tryz.prog (w8.alloc (.cells #[.slice (some ⟨g8,0,none⟩) (p.tr.length+1) c8,.slice A6 st.length c6] 204)) = .ok (.slice (some ⟨g9,0,none⟩) ((rj j).length+1) c9) w9∧(w9.cell? ⟨wc.heap.size,0,none⟩=some (.slice At p.tr.length ct)∧w9.cell? ⟨wr.heap.size,0,none⟩=some (.int .i64 x.g)∧w9.cell? ⟨wr.heap.size,1,none⟩=some (.slice Ax x.v.length cx))∧(qab RPl 2 204 wb.heap.size T w9 (rj (j+1)) (.slice (some ⟨g9,0,none⟩) (rj (j+1)).length c9)∧(Value.slice (some ⟨g9,0,none⟩) (rj (j+1)).length c9).ownBlock≠some wc.heap.size∧w9.cell? ⟨wc.heap.size,0,none⟩=some (.slice At p.tr.length ct)∧w9.cell? ⟨wc.heap.size,1,none⟩=some (.slice As p.st.length cs)∧Ext wb w9):=fun w7 A7 c7 ho hx=>by
         have hsz:w6.heap.size≤(World.heap w6.drew).size:=Nat.le_refl _
         have h67:Ext w6 w7:=Ext.trans' (Ext.refl w6).drew hx
         obtain ⟨g8,c8,w8,hr8,hx8,g9,c9,w9,hr9,ho9,hb9,ha9⟩:=plApp wb.heap.size T w6 w7 (w7.alloc (.cells #[.int .i64 x.g,.slice Ax x.v.length cx] 61)) (rj j) st p.tr x (.slice A4 (rj j).length c4) (.slice A6 st.length c6) (.slice A7 p.tr.length c7) (.slice Ax x.v.length cx) (w7.heap.size) _ w5.heap.size hn6 ho6
          (by rw [hS6] at ho;exact ho) h67 ((Ext.refl _).alloc _) hsz hx.size hb6 hTn hTs hbn
          (qei w7 #[.int .i64 x.g,.slice Ax x.v.length cx] 61) hx6' hpl hrl
         have hb9':Ext wb w9:=Bt.new hx6b hb9 fun b _ h=>(hnb4 b h).1
         have hwr:¬ (Value.slice A4 (rj j).length c4).ownBlock=some wr.heap.size:=fun h=>by have:=(hnb4 _ h).2;omega
         refine ⟨⟨Ext.keep h67 e0,Ext.keep h67 f0,Ext.keep h67 f1⟩,g8,c8,w8,hr8,⟨Ext.keep hx8 e0,Ext.keep hx8 f0,Ext.keep hx8 f1⟩,g9,c9,w9,hr9,⟨hb9.cell e0 hno,hb9.cell f0 hwr,hb9.cell f1 hwr⟩,?_⟩
         have hlen:(rj (j+1)).length=(rj j).length+1:=by rw [hsm.out,List.length_append];rfl
         rw [hlen,hsm.out]
         refine ⟨ho9,fun e=>?_,hb9.cell e0 hno,hb9.cell e1 hno,hb9'⟩
         have hg:g9=wc.heap.size:=by injection e
         rcases ha9 with h | h
         ·rw [hg] at h;exact hno h
         ·omega
        have keyB:∀ (w7:World) (A7:Option Addr) (c7:Nat),qab RLb 2 61 (World.heap (w6.alloc (.cells #[.int .i64 x.g,.slice Ax x.v.length cx] 61)).drew).size S6 w7 p.tr (.slice A7 p.tr.length c7)→Ext (w6.alloc (.cells #[.int .i64 x.g,.slice Ax x.v.length cx] 61)).drew w7→(w7.cell? ⟨wc.heap.size,0,none⟩=some (.slice At p.tr.length ct)∧w7.cell? ⟨wr.heap.size,0,none⟩=some (.int .i64 x.g)∧w7.cell? ⟨wr.heap.size,1,none⟩=some (.slice Ax x.v.length cx)) ∧
          ∃ g8 c8 w8,(Builtin.append_ #[22,22] 22 #[.slice A7 p.tr.length c7,.slice (some ⟨w6.heap.size,0,none⟩) 1 1]).run Tryz.prog w7 = .ok (.slice (some ⟨g8,0,none⟩) (p.tr.length+1) c8) w8∧(w8.cell? ⟨wc.heap.size,0,none⟩=some (.slice At p.tr.length ct)∧w8.cell? ⟨wr.heap.size,0,none⟩=some (.int .i64 x.g)∧w8.cell? ⟨wr.heap.size,1,none⟩=some (.slice Ax x.v.length cx)) ∧
          ∃ g9 c9 w9,(Builtin.append_ #[200,200] 200 #[.slice A4 (rj j).length c4,.slice (some ⟨w8.heap.size,0,none⟩) 1 1]).run Tryz.prog (w8.alloc (.cells #[.slice (some ⟨g8,0,none⟩) (p.tr.length+1) c8,.slice A6 st.length c6] 204)) = .ok (.slice (some ⟨g9,0,none⟩) ((rj j).length+1) c9) w9∧(w9.cell? ⟨wc.heap.size,0,none⟩=some (.slice At p.tr.length ct)∧w9.cell? ⟨wr.heap.size,0,none⟩=some (.int .i64 x.g)∧w9.cell? ⟨wr.heap.size,1,none⟩=some (.slice Ax x.v.length cx))∧(qab RPl 2 204 wb.heap.size T w9 (rj (j+1)) (.slice (some ⟨g9,0,none⟩) (rj (j+1)).length c9)∧(Value.slice (some ⟨g9,0,none⟩) (rj (j+1)).length c9).ownBlock≠some wc.heap.size∧w9.cell? ⟨wc.heap.size,0,none⟩=some (.slice At p.tr.length ct)∧w9.cell? ⟨wc.heap.size,1,none⟩=some (.slice As p.st.length cs)∧Ext wb w9):=fun w7 A7 c7 ho hx=>by
         have hsz:w6.heap.size≤(World.heap (w6.alloc (.cells #[.int .i64 x.g,.slice Ax x.v.length cx] 61)).drew).size:=by show _≤(World.heap (w6.alloc _)).size;simp
         have h67:Ext w6 w7:=Ext.trans' ((Ext.refl w6).alloc (.cells #[.int .i64 x.g,.slice Ax x.v.length cx] 61)).drew hx
         obtain ⟨g8,c8,w8,hr8,hx8,g9,c9,w9,hr9,ho9,hb9,ha9⟩:=plApp wb.heap.size T w6 w7 w7 (rj j) st p.tr x (.slice A4 (rj j).length c4) (.slice A6 st.length c6) (.slice A7 p.tr.length c7) (.slice Ax x.v.length cx) (w6.heap.size) _ w5.heap.size hn6 ho6
          (by rw [hS6] at ho;exact ho) h67 (Ext.refl _) hsz hx.size hb6 hTn hTs hbn
          (fun j u hj=>by rw [Addr.add_lit,Nat.zero_add];exact Ext.keep hx ((cell_of_row _ _ j _ _ _ (World.alloc_heap_new w6 (.cells #[.int .i64 x.g,.slice Ax x.v.length cx] 61))).trans (by simpa using hj))) hx6' hpl hrl
         have hb9':Ext wb w9:=Bt.new hx6b hb9 fun b _ h=>(hnb4 b h).1
         have hwr:¬ (Value.slice A4 (rj j).length c4).ownBlock=some wr.heap.size:=fun h=>by have:=(hnb4 _ h).2;omega
         refine ⟨⟨Ext.keep h67 e0,Ext.keep h67 f0,Ext.keep h67 f1⟩,g8,c8,w8,hr8,⟨Ext.keep hx8 e0,Ext.keep hx8 f0,Ext.keep hx8 f1⟩,g9,c9,w9,hr9,⟨hb9.cell e0 hno,hb9.cell f0 hwr,hb9.cell f1 hwr⟩,?_⟩
         have hlen:(rj (j+1)).length=(rj j).length+1:=by rw [hsm.out,List.length_append];rfl
         rw [hlen,hsm.out]
         refine ⟨ho9,fun e=>?_,hb9.cell e0 hno,hb9.cell e1 hno,hb9'⟩
         have hg:g9=wc.heap.size:=by injection e
         rcases ha9 with h | h
         ·rw [hg] at h;exact hno h
         ·omega
        have HA:=Hd keyA
        have HB:=Hd keyB
        have hcl:=fun W (hW:Ext w6 W)=>ql4 S6 p.tr (.slice At p.tr.length ct) W (qaa.good.bel htp6 hW) (by omega)
        have HS6:=Hd hS6
        have HO6:=Hd ho6
        have hup2:(rj j).length+1≤(qb5 s lev).length:=by have:=hup.out;rw [hsm.out,List.length_append] at this;exact this
        clear keyA keyB hS6 ho6 hn6 hx6' htp6 hTn hTs hbn h6
        go_wp2_with fail
        go_region_held3 (fun W=>W.cell? ⟨wc.heap.size,0,none⟩=some (.slice At p.tr.length ct)∧W.cell? ⟨wr.heap.size,0,none⟩=some (.int .i64 x.g)∧W.cell? ⟨wr.heap.size,1,none⟩=some (.slice Ax x.v.length cx))
         (first | (refine ⟨?_,?_,?_⟩ <;> go_simp <;> done) | (have hq:=k9;exact hq) | (have hq:=k8;exact hq) | (have hq:=k7;exact hq) | (have hq:=k7;exact Ext.k3 ((Ext.refl _).alloc _) hq) | (have hq:=k8;exact Ext.k3 ((Ext.refl _).alloc _) hq) | exact Ext.k3 ((Ext.refl _).alloc _) (by assumption))
         (first
         | (go_at_call 39;refine (hcl _ bel).mono ?_;rintro e w7 ⟨v7,rfl,ho7,hx7⟩;obtain ⟨A7,c7,rfl,hc7,hc70⟩:=(ho7.sl RLb.good (by decide)).val;first | (have hq7:Ext w6.drew w7:=hx7;obtain ⟨k7,g8,c8,w8,hr8,k8,g9,c9,w9,hr9,k9,fin9⟩:=HA.out w7 A7 c7 ho7 hq7) | (have hq7:Ext (w6.alloc (.cells #[.int .i64 x.g,.slice Ax x.v.length cx] 61)).drew w7:=hx7;obtain ⟨k7,g8,c8,w8,hr8,k8,g9,c9,w9,hr9,k9,fin9⟩:=HB.out w7 A7 c7 ho7 hq7))
         | (refine qdj rfl _ _ _ rfl _ _ _ rfl rfl hr8 ?_)
         | (refine qdj rfl _ _ _ rfl _ _ _ rfl rfl hr9 ?_))
        all_goals
         obtain ⟨q1,q2,q3,q4,q5⟩:=fin9
         have hlen9:(rj (j+1)).length=(rj j).length+1:=by rw [hsm.out,List.length_append];rfl
         by_cases hlim:4000<out.length+(rj j).length+1
         ·have HF:Hid (qfk s depth=none):=by
           show _=_
           rw [← hfacts.out.2.2.2,show depth-k=(depth-k-1)+1 from by omega,qca,if_pos (by omega)]
          clear hlen9
          go_wp2_with fail
          go_ret2
          rw [HF.out]
          exact ⟨none,0,rfl,⟨none,0,rfl,Nat.le_refl _,by decide,.inl rfl⟩,hE.trans' q5⟩
         ·have hlen8:=Hd hlen9
          clear hlen9
          go_wp2_with fail
          go_roundw
          case rel=>exact ⟨j+1,some ⟨g9,0,none⟩,c9,by omega,by go_num,by rw [hlen8.out],q1,q2,q3,q4,(by show _≤_;rw [hlen8.out];omega),q5⟩
          case measure=>simp [intOf];omega
      ·obtain rfl:j=s.ls.length:=by omega
       rw [hr2.out] at hnx hsum2
       have hr4:=Hd hr2
       have HNX:=Hd hnx
       clear hnx
       go_wp2_with fail
       go_roundw
       case rel=>exact ⟨i+1,A4,c4,by omega,by go_num,by rw [hr4.out.out],HNX.out,hsum2,hE3⟩
       case measure=>simp [intOf];omega
    ·obtain rfl:i=lev.length:=by omega
     rw [List.take_length] at hnx hsum ⊢
     have hnb:=fun q hq=>hnx.own_lt (b:=q) hq
     have ho2:=HOUT.out.ext RPl.good hE2
     obtain ⟨nx,hnxe⟩:∃ nx,qb5 s lev=nx:=⟨_,rfl⟩
     have hgo:Hid (qca s (depth-(k+1)) (out++nx) nx=qfk s depth):=by
      show _=_
      have h1:=hsum.out
      rw [← hfacts.out.2.2.2,show depth-k=(depth-(k+1))+1 from by omega,qca,if_neg (by omega),hnxe]
     have hps:Hid (∀ p∈nx,p.tr.length≤k+1∧p.st.length≤1000000):=by
      intro p hp
      rw [← hnxe] at hp
      obtain ⟨q,hq,hp⟩:=List.mem_flatMap.1 hp
      obtain ⟨x,hx,hp⟩:=List.mem_flatMap.1 hp
      unfold qbu at hp
      split at hp
      ·rw [List.mem_singleton.1 hp]
       have h1:=hfacts.out.2.2.1 q hq
       have h2:=qnz s x q.st
       have h3:=hok.2.2.2.1
       simp only [List.length_append,List.length_cons,List.length_nil]
       exact ⟨by omega,by omega⟩
      ·simp at hp
     rw [hnxe] at hnx hsum hnb ⊢
     have hsm:=hsum.out
     obtain ⟨news,hrow,hF⟩:=ho2
     obtain ⟨news2,hrow2,hF2⟩:=id hnx
     rcases Joins.ownsRow_forms hrow2 with ⟨hv,h0⟩ | ⟨g',cap',hv⟩
     ·injection hv with hv1 hv2 hv3
      subst hv1 hv3
      have hnil:nx=[]:=List.length_eq_zero_iff.1 h0
      subst hnil
      have hoc:out.length≤c∧c≤9223372036854775807:=by obtain ⟨A',c',h1,h2,h3,_⟩:=HOUT.out.slx;injection h1 with _ _ h1;omega
      have hrn:=run_append_nothing wr 200 200 204 i3 _ Tryz.underlying200 hi3 hz0 (by omega) A out.length c hoc.1 hoc.2
      have HO2:Hid (qab RPl 2 204 w.heap.size (fun _=>True) wr out (.slice A out.length c)):=⟨news,hrow,hF⟩
      go_wp2_with (at_builtin;refine Lib.wpList_append_run _ rfl _ _ _ _ rfl _ _ rfl rfl _ _ hrn ?_)
      go_roundw
      case rel=>exact ⟨k+1,out,[],A,c,none,0,by omega,by go_num,rfl,rfl,HO2.out,⟨none,0,rfl,Nat.le_refl _,by decide,.inl rfl⟩,⟨hf1,by simp,by simp,by have:=hgo.out;rwa [List.append_nil] at this⟩,hE.trans' hE2⟩
      case measure=>simp [intOf];omega
     ·injection hv with hv1 _ hv3
      subst hv1 hv3
      have hcc:∀ j u,news2[j]? = some u→wr.cell? ((⟨g',0,none⟩:Addr).add j)=some u:=hrow2.cells rfl
      have hn2:=hF2.len
      have h1c:=hF2.one RPl.good
      have hszE:=hE2.size
      have hF2':Flat RPl 2 (fun b=>True∧(Value.slice A out.length c).ownBlock≠some b) wr nx news2:=hF2.imp fun y _ cs hy=>RPl.good.mono hy fun b _ hb=>⟨trivial,by have:=hb.1;rwa [hT] at this⟩
      have HF:=Hd hF
      have HF2:=Hd hF2'
      have HNX:=Hd hnx
      clear hF hF2 hF2' hnx hrow2
      go_wp2_with (at_builtin;refine wpList_append_own_at _ rfl _ _ 200 rfl w.heap.size 204 i3 _ 2 48 Tryz.underlying200 hi3 hz0 hz1 hz2 rfl (by decide) _ _ _ rfl hrow ⟨g',0,none⟩ nx.length c' news2 rfl hn2 hcc h1c (by unfold maxLen;omega) (by omega) (by omega) ?_;intro v5 w5 hown5 hgrow5 hnil5 hat5)
      have hp5:=qab.push RPl.good HF.out HF2.out hown5 hgrow5 hat5
      obtain ⟨A5,c5,hv5,hv51,hv52,_⟩:=hp5.slx
      subst hv5
      have hX5:Ext w w5:=Below.grown (hE.trans' hE2) hgrow5 (by omega) fun q hq=>(hob q hq).1
      have hlev5:qen RPl 2 (fun b=>(Value.slice A5 (out++nx).length c5).ownBlock≠some b) w5 nx (.slice (some ⟨g',0,none⟩) nx.length c'):=by
       refine qen.turn RPl.good HNX.out.slx ((Bt.of_grown hgrow5).mono (Z':=fun b=>(Value.slice A out.length c).ownBlock=some b) fun b _ h=>h.symm) (fun b hb e=>?_) (fun b off c n e=>?_) fun b hb h=>⟨fun e=>?_,fun e=>?_⟩
       ·have:=(hob b hb).2;have:=(hnb b e).1;omega
       ·injection e with e;injection e with e;injection e with e1 e2;exact e2.symm
       ·have:=h.1;rw [hT] at this;exact this e
       ·rcases hat5 with h5 | h5
        ·rw [h5] at e;have:=h.1;rw [hT] at this;exact this e
        ·rw [h5] at e;injection e with e;omega
      have HP5:=Hd hp5
      have HL5:=Hd hlev5
      have hlen5:Hid ((out++nx).length≤4000):=by show _≤_;rw [List.length_append];omega
      clear hown5 hgrow5 hat5 hnil5 hrow hcc hp5 hlev5
      go_wp2_with fail
      go_roundw
      case rel=>exact ⟨k+1,out++nx,nx,A5,c5,some ⟨g',0,none⟩,c',by omega,by go_num,rfl,rfl,HP5.out,HL5.out,⟨hlen5.out,by omega,hps.out,hgo.out⟩,hX5⟩
      case measure=>simp [intOf];omega
  ·obtain rfl:k=depth:=by omega
   have hfin:Hid (qfk s k=some out):=by
    show _=_
    rw [← hfacts.out.2.2.2,Nat.sub_self,qca]
   have HO:=Hd hown
   clear hown hlev
   go_wp2_with fail
   go_ret2
   rw [hfin.out]
   refine ⟨A,c,rfl,?_,hE⟩
   obtain ⟨A3,c3,h1,h2,h3,h4⟩:=HO.out.slx
   refine ⟨A3,c3,h1,h2,h3,h4.imp id ?_⟩
   rintro ⟨b,off,h5,h6,h7⟩
   exact ⟨b,off,h5,h6,h7.imp (fun y _ cs hy=>RPl.good.mono hy fun q _ hq=>trivial) rfl⟩
end
end Go.Proofs.YtegenalcheooeaaGreat
