/- Of the proof of a law of the suites: Places, Gen. -/
import Derived.Test.YtegenalcheooeaaGreatB11
import Derived.Test.YtegenalcheooeaaGreatB23
set_option linter.unusedSectionVars false
set_option linter.unusedSimpArgs false
set_option linter.unusedVariables false
namespace Go.Proofs.YtegenalcheooeaaGreat
open Go.RowKit
attribute [local go_sem] cell?_exto
section
open Go.Shelf
structure Pl where
 tr:List Lb
 st:List Int
def RPl:Rdr Pl:=fun S w x cs=>∃ v u,cs=[v,u]∧qaa S w x.tr [v]∧RSl qac 1 S w x.st [u]
theorem RPl.good:Good RPl 2:={
 len:=by rintro S w x cs ⟨v,u,rfl,_⟩;rfl
 one:=by
  rintro S w t cs ⟨v,u,rfl,hv,hu⟩ y hy
  simp at hy
  rcases hy with rfl | rfl
  ·exact hv.oneCell
  ·exact hu.oneCell
 move:=by rintro S w w' x cs ⟨v,u,rfl,hv,hu⟩ hk;exact ⟨v,u,rfl,qaa.good.move hv hk,(RSl.good qac.good).move hu hk⟩
 mono:=by rintro S S' w x cs ⟨v,u,rfl,hv,hu⟩ hs;exact ⟨v,u,rfl,qaa.good.mono hv hs,(RSl.good qac.good).mono hu hs⟩ }
def qfn (s:Sy) (p:Pl) (x:Lb):List Pl:=if qa0 x.g=true∧0<(qc2 s x p.st).length then [⟨p.tr++[x],qc2 s x p.st⟩] else []
def plRow (s:Sy) (p:Pl):List Pl:=s.ls.flatMap (qfn s p)
def qcw (s:Sy) (lev:List Pl):List Pl:=lev.flatMap (plRow s)
def qeo (s:Sy):Nat->List Pl->List Pl->Option (List Pl)
 | 0,out,_=>some out
 | d+1,out,lev=>if 4000<out.length+(qcw s lev).length then none else qeo s d (out++qcw s lev) (qcw s lev)
def qe2 (s:Sy) (depth:Nat):Option (List Pl):=qeo s depth [⟨[],qau s [0]⟩] [⟨[],qau s [0]⟩]
def qdu {α:Type} (R:Rdr α) (k:Nat) (S:Nat->Prop) (w:World) (xs:List α) (v:Value):Prop :=
 ∃ A c,v = .slice A xs.length c∧xs.length<=c∧c<=9223372036854775807∧(xs=[]∨∃ b off,A=some ⟨b,off,none⟩∧b<w.heap.size∧qcn R k S w b off xs)
theorem qdu.get {α:Type} {R:Rdr α} {k:Nat} {S:Nat->Prop} {w:World} {xs:List α} {A:Option Addr} {n c:Nat} (h:qdu R k S w xs (.slice A n c)) (i:Nat) (hi:i<xs.length) :
  ∃ b off cs,A=some ⟨b,off,none⟩∧b<w.heap.size∧cs.length=k∧R S w xs[i] cs∧qec w b (off+i*k) cs:=by
 obtain ⟨A',c',hv,h1,h0,h2⟩:=h
 injection hv with hv
 rcases h2 with rfl | ⟨b,off,rfl,hb,hr⟩
 ·simp at hi
 ·obtain ⟨cs,h3,h4,h5⟩:=hr.get i hi
  exact ⟨b,off,cs,hv,hb,h3,h4,h5⟩
theorem qab.slx {α:Type} {R:Rdr α} {k base:Nat} {e:TypeId} {T:Nat->Prop} {w:World} {xs:List α} {v:Value} (h:qab R k e base T w xs v):qdu R k (fun b=>T b∧v.ownBlock≠some b) w xs v:=by
 obtain ⟨news,⟨h1,h2⟩,h3⟩:=h
 rcases h2 with ⟨rfl,h2⟩ | ⟨g,cap,cur,rfl,hb,hh,hc,hm,hs,ht⟩
 ·have:xs=[]:=List.length_eq_zero_iff.1 h2
  subst this
  exact ⟨none,0,rfl,Nat.le_refl _,by decide,.inl rfl⟩
 ·refine ⟨some ⟨g,0,none⟩,cap,rfl,hc,hm,.inr ⟨g,0,rfl,(Array.getElem?_eq_some_iff.1 hh).1,?_⟩⟩
  refine Flat.row (cs:=news) h3 fun i u hi=>?_
  have hi':cur[i]? = some u:=by
   rw [<- ht,List.getElem?_take] at hi
   split at hi
   ·simpa using hi
   ·cases hi
  rw [Nat.zero_add]
  exact (cell_of_row w g i cur e (0,0) hh).trans hi'
theorem qdu.turn {α:Type} {R:Rdr α} {k:Nat} (hR:Good R k) {S S' Z:Nat->Prop} {w w':World} {xs:List α} {v:Value} (h:qdu R k S w xs v) (hb:Bt Z w w') (hv:∀ b,Z b->v.ownBlock≠some b) (hoff:∀ b off c n,v = .slice (some ⟨b,off,none⟩) n c->off=0)
  (hS:∀ b,b<w.heap.size->S b->¬ Z b∧S' b):qdu R k S' w' xs v:=by
 obtain ⟨A,c,rfl,h1,h0,h2⟩:=h
 refine ⟨A,c,rfl,h1,h0,h2.imp id ?_⟩
 rintro ⟨b,off,rfl,hbl,hr⟩
 obtain rfl:=hoff _ _ _ _ rfl
 refine ⟨b,0,rfl,Nat.lt_of_lt_of_le hbl hb.size,hr.imp (fun x _ cs hx=>?_) (hb.block b hbl fun hz=>hv b hz rfl)⟩
 exact hR.mono (S:=fun b=>S b∧b<w.heap.size) (hR.move (hR.mono hx fun b h1 h2=>⟨h2,h1⟩) (hb.kp fun b h1 h2=>(hS b h1 h2.1).1)) fun b _ hb'=>(hS b hb'.2 hb'.1).2
theorem run_append_nothing {P:Program} (w:World) (t ty e:TypeId) (i:TypeInfo) (z:Value) (ht:P.underlying t=some (.slice e)) (hi:P.info? e=some i) (hz:i.zero=some z) (hs:0<i.size) (A:Option Addr) (n c:Nat) (hnc:n<=c) (hc:c<=9223372036854775807) :
  (Builtin.append_ #[t,t] ty #[.slice A n c,.slice none 0 0]).run P w = .ok (.slice A n c) w:=by
 have h1:¬ (9223372036854775807<(n:Int)):=by omega
 cases A <;> simp [Builtin.append_,run_underlying ht,sizeOf,typeInfo,zeroValue,hi,hz,Builtin.lenOf,hnc,h1,Builtin.firstCells,storeCells]
theorem infoPla:(Tryz.prog.info? 204).map (fun i=>(i.zero,i.size,i.bytes))=some (some (.agg #[.slice none 0 0,.slice none 0 0]),2,48):=by kernel_rfl
theorem qup {base:Nat} {S T:Nat->Prop} {w:World} {xs:List Int} {v:Value} (h:qab qac 1 3 base T w xs v) (hS:∀ b,v.ownBlock=some b->S b):RSl qac 1 S w xs [v]:=by
 obtain ⟨A,c,hv,h1,h2,h3⟩:=h.sl qac.good (by decide)
 refine ⟨A,c,hv,h1,h2,?_⟩
 obtain ⟨news,hr,_⟩:=h
 rcases h3 with h3 | ⟨b,off,rfl,hb,_,hrow⟩
 ·exact .inl h3
 ·injection hv with hv
  subst hv
  rcases hr.2 with ⟨h4,_⟩ | ⟨g,cap,cur,h4,_⟩
  ·simp at h4
  ·simp only [Value.slice.injEq,Option.some.injEq,Addr.mk.injEq] at h4
   obtain ⟨⟨rfl,rfl,_⟩,_⟩:=h4
   exact .inr ⟨b,0,rfl,hb,hS b rfl,hrow.imp (fun x _ cs h=>h) rfl⟩
theorem plApp (base:Nat) (T:Nat->Prop) (w5 w6 Wa:World) (xs:List Pl) (st:List Int) (tr:List Lb) (x:Lb) (vn vst v6 vx:Value) (Lx b6 bs:Nat) (hn:qab RPl 2 204 base T w5 xs vn) (hst:qab qac 1 3 bs (fun _=>False) w5 st vst)
  (ho:qab RLb 2 61 b6 (fun b=>T b∧b<w5.heap.size∧vn.ownBlock≠some b) w6 tr v6) (h56:Ext w5 w6) (h6a:Ext w6 Wa) (h5b:w5.heap.size<=b6) (hb6:b6<=w6.heap.size) (hbase:base<=w5.heap.size) (hTn:∀ b,w5.heap.size<=b->T b) (hTs:∀ b,bs<=b->T b) (hbn:∀ b,vn.ownBlock=some b->vst.ownBlock≠some b)
  (hcc:∀ j u,[Value.int .i64 x.g,vx][j]? = some u->Wa.cell? ((⟨Lx,0,none⟩:Addr).add j)=some u) (hx:RLb (fun b=>T b∧b<w5.heap.size∧vn.ownBlock≠some b) w5 x [.int .i64 x.g,vx]) (hlt:tr.length<=1000) (hlx:xs.length<=1000000) :
  ∃ g7 c7 w7,((Builtin.append_ #[22,22] 22 #[v6,.slice (some ⟨Lx,0,none⟩) 1 1]).run Tryz.prog Wa = .ok (.slice (some ⟨g7,0,none⟩) (tr.length+1) c7) w7)∧Ext w5 w7 ∧
   ∃ g8 c8 w8,((Builtin.append_ #[200,200] 200 #[vn,.slice (some ⟨w7.heap.size,0,none⟩) 1 1]).run Tryz.prog (w7.alloc (.cells #[.slice (some ⟨g7,0,none⟩) (tr.length+1) c7,vst] 204)) = .ok (.slice (some ⟨g8,0,none⟩) (xs.length+1) c8) w8) ∧
    qab RPl 2 204 base T w8 (xs++[⟨tr++[x],st⟩]) (.slice (some ⟨g8,0,none⟩) (xs.length+1) c8)∧Bt (fun b=>vn.ownBlock=some b) w5 w8∧(vn.ownBlock=some g8∨w5.heap.size<=g8):=by
 obtain ⟨i61,p1,hzz⟩:=Option.map_eq_some_iff.1 qhm
 simp only [Prod.mk.injEq] at hzz
 obtain ⟨p2,p3,p4⟩:=hzz
 obtain ⟨i204,q1,hzz⟩:=Option.map_eq_some_iff.1 infoPla
 simp only [Prod.mk.injEq] at hzz
 obtain ⟨q2,q3,q4⟩:=hzz
 have hnb:=fun b hb=>hn.own_lt (b:=b) hb
 have hsb:=fun b hb=>hst.own_lt (b:=b) hb
 have h5a:=h56.trans' h6a
 have ho':=ho.ext RLb.good h6a
 have hob:=fun b hb=>ho'.own_lt (b:=b) hb
 obtain ⟨news,hrow,hF⟩:=ho'
 obtain ⟨v7,w7,hr7,hown7,hg7,_,hat7⟩:=run_append_own_at (P:=Tryz.prog) Wa b6 22 22 61 i61 _ 2 32 Tryz.underlying22 p1 p2 p3 p4 rfl (by decide) _ _ _ hrow ⟨Lx,0,none⟩ 1 1 [.int .i64 x.g,vx] rfl hcc (RLb.good.one hx) (by unfold maxLen;omega) (by omega) (Nat.le_trans hb6 h6a.size)
 have hG:Flat RLb 2 (fun b=>(T b∧b<w5.heap.size∧vn.ownBlock≠some b)∧v6.ownBlock≠some b) Wa [x] [.int .i64 x.g,vx]:=Flat.single (RLb.good.bel (RLb.good.mono hx fun b _ hb=>⟨hb,fun e=>by have:=(hob b e).1;omega⟩) h5a) rfl
 have hp7:=qab.push RLb.good hF hG hown7 hg7 hat7
 have h57:Ext w5 w7:=Below.grown h5a hg7 h5a.size fun b hb=>by have:=(hob b hb).1;omega
 obtain ⟨g7,c7,rfl⟩:=ownsRow_succ hown7
 refine ⟨g7,c7,w7,hr7,h57,?_⟩
 have h58:=h57.alloc (.cells #[.slice (some ⟨g7,0,none⟩) (tr.length+1) c7,vst] 204)
 have hn':=hn.ext RPl.good h58
 obtain ⟨news2,hrow2,hF2⟩:=hn'
 have hcc2:=qew w7 #[.slice (some ⟨g7,0,none⟩) (tr.length+1) c7,vst] 204
 have h1c:vst.oneCell'=true:=(hst.sl qac.good (by decide)).oneCell
 obtain ⟨v8,w8,hr8,hown8,hg8,_,hat8⟩:=run_append_own_at (P:=Tryz.prog) (w7.alloc (.cells #[.slice (some ⟨g7,0,none⟩) (tr.length+1) c7,vst] 204)) base 200 200 204 i204 _ 2 48 Tryz.underlying200 q1 q2 q3 q4 rfl (by decide) _ _ _ hrow2 ⟨w7.heap.size,0,none⟩ 1 1 [.slice (some ⟨g7,0,none⟩) (tr.length+1) c7,vst] rfl hcc2 (fun u hu=>by
  simp only [List.mem_cons,List.not_mem_nil,or_false] at hu
  rcases hu with rfl | rfl
  ·rfl
  ·exact h1c) (by unfold maxLen;omega) (by omega) (by have:=h58.size;omega)
 obtain ⟨g8,c8,rfl⟩:=ownsRow_succ hown8
 have hlen7:(tr++[x]).length=tr.length+1:=by simp
 have hy:RPl (fun b=>T b∧vn.ownBlock≠some b) (w7.alloc (.cells #[.slice (some ⟨g7,0,none⟩) (tr.length+1) c7,vst] 204)) ⟨tr++[x],st⟩ [.slice (some ⟨g7,0,none⟩) (tr.length+1) c7,vst]:=by
  refine ⟨_,_,rfl,qaa.good.bel (qaa.good.mono (hp7.sl RLb.good (by decide)) fun b _ hb=>?_) ((Ext.refl _).alloc _),(RSl.good qac.good).bel (qup hst fun b hb=>⟨hTs b (hsb b hb).1,fun e=>hbn b e hb⟩) h58⟩
  rcases hb with h | h
  ·exact ⟨h.1,h.2.2⟩
  ·exact ⟨hTn b (by omega),fun e=>by have:=(hnb b e).2;omega⟩
 refine ⟨g8,c8,w8,hr8,?_,h58.bt.trans ((Bt.of_grown hg8).mono fun b _ h=>h.symm),?_⟩
 ·have:=qab.push RPl.good hF2 (Flat.single hy rfl) hown8 hg8 hat8
  exact this
 ·have hob8:(Value.slice (some ⟨g8,0,none⟩) (xs.length+1) c8).ownBlock=some g8:=rfl
  rw [hob8] at hat8
  rcases hat8 with h | h
  ·exact .inl h.symm
  ·right
   have:=h58.size
   injection h with h
   omega
def PlPost (r:Option (List Pl)) (w:World) (e:Ending) (w':World):Prop :=
 ∃ A c,e = .returned (.tuple #[.slice A (qbs r).length c,.int .i64 (errO r)])∧qdu RPl 2 (fun _=>True) w' (qbs r) (.slice A (qbs r).length c)∧Ext w w'
set_option maxHeartbeats 1000000 in
set_option maxRecDepth 100000 in
theorem places_c (S:Nat->Prop) (s:Sy) (hok:qag s) (g:Nat) (depth:Nat) (w:World) (hS:qav S w g s) (hd:depth<=8) :
  Calls Tryz.prog 160 #[.pointer (some ⟨g,0,none⟩),.int .i64 (depth:Int)] w (PlPost (qe2 s depth) w):=by
 have HS:Hid (qav (fun b=>b<w.heap.size) w g s):=hS.mono fun b hb _=>hb
 clear hS
 obtain ⟨i3,hi3,hzz⟩:=Option.map_eq_some_iff.1 infoPla
 simp only [Prod.mk.injEq] at hzz
 obtain ⟨hz0,hz1,hz2⟩:=hzz
 have hc2:=(qlx (fun _=>True) s hok g [0] _ _ ((HS.out.mono fun _ _ _=>trivial).bel ((Ext.refl w).alloc _)) (qnz w 0 ⟨by decide,by decide⟩ trivial) (by decide)).mono fun e w' h=>qfz.at h (b':=w.heap.size) (by simp)
 go_enter Tryz.func160,Tryz.ntmps160
 go_wp2_with fail
 refine hc2.mono ?_
 rintro e w1 ⟨A1,c1,rfl,ho1,hx1⟩
 have hX1:Ext w w1:=Ext.trans' ((Ext.refl w).alloc _) hx1
 have hpl0:RPl (fun b=>b<w1.heap.size) w1 ⟨[],qau s [0]⟩ [.slice none 0 0,.slice A1 (qau s [0]).length c1] :=
  ⟨_,_,rfl,⟨none,0,rfl,Nat.le_refl _,by decide,.inl rfl⟩,(RSl.good qac.good).mono (ho1.sl qac.good (by decide)) fun b hb _=>hb⟩
 have hlit:qab RPl 2 204 w.heap.size (fun b=>b<w1.heap.size) (w1.alloc (.cells #[.slice none 0 0,.slice A1 (qau s [0]).length c1] 204)) [⟨[],qau s [0]⟩] (.slice (some ⟨w1.heap.size,0,none⟩) 1 1):=by
  have h1:=World.ownsRow_lit (base:=w.heap.size) (e:=204) (size:=2) w1 #[.slice none 0 0,.slice A1 (qau s [0]).length c1] 1 hX1.size (by decide) rfl
  refine ⟨_,h1,Flat.single (RPl.good.bel (RPl.good.mono hpl0 fun b hb _=>⟨hb,?_⟩) ((Ext.refl _).alloc _)) rfl⟩
  simp [Value.ownBlock]
  omega
 have hst0:(qau s [0]).length<=1000000:=by have h:=qj2 s [0];have:=qf6 s [0];have:=hok.2.2.2.1;simp only [List.length_cons,List.length_nil] at h;omega
 have HLIT:=Hd hlit
 have hv0:Hid (qe2 s depth=qeo s depth [⟨[],qau s [0]⟩] [⟨[],qau s [0]⟩]):=rfl
 have hXl:=hX1.alloc (.cells #[.slice none 0 0,.slice A1 (qau s [0]).length c1] 204)
 clear hpl0 hlit ho1 hc2
 go_wp2_with fail
 go_loopw [6,7,21] (fun vo vl vi wr=>∃ (k:Nat) (out lev:List Pl) (A:Option Addr) (c:Nat) (A2:Option Addr) (c2:Nat),k<=depth∧vi = .int .i64 k∧vo = .slice A out.length c∧vl = .slice A2 lev.length c2∧qab RPl 2 204 w.heap.size (fun _=>True) wr out (.slice A out.length c)∧qdu RPl 2 (fun b=>(Value.slice A out.length c).ownBlock≠some b) wr lev (.slice A2 lev.length c2) ∧
  Hid (out.length<=4000∧lev.length<=4000∧(∀ p∈lev,p.tr.length<=k∧p.st.length<=1000000)∧qeo s (depth-k) out lev=qe2 s depth)∧Ext w wr) (fun _ _ vi _=>depth-(intOf vi).toNat)
 case atStart =>
  refine ⟨0,[⟨[],qau s [0]⟩],[⟨[],qau s [0]⟩],some ⟨w1.heap.size,0,none⟩,1,some ⟨w1.heap.size,0,none⟩,1,Nat.zero_le _,rfl,rfl,rfl,HLIT.out.mono RPl.good fun _ _ _=>trivial,?_,⟨by simp,by simp,?_,rfl⟩,hXl⟩
  ·obtain ⟨A,c,h1,h2,h3,h4⟩:=HLIT.out.slx
   refine ⟨A,c,h1,h2,h3,h4.imp id ?_⟩
   rintro ⟨b,off,h5,h6,h7⟩
   exact ⟨b,off,h5,h6,h7.imp (fun y _ cs hy=>RPl.good.mono hy fun q _ hq=>hq.2) rfl⟩
  ·intro p hp
   rw [List.mem_singleton.1 hp]
   exact ⟨Nat.le_refl _,hst0⟩
 case round =>
  obtain ⟨k,out,lev,A,c,A2,c2,hk,rfl,rfl,rfl,hown,hlev,hfacts,hE⟩:=hrel
  by_cases hlt:k<depth
  ·obtain ⟨wb,rfl⟩:∃ wb,wb=wr:=⟨_,rfl⟩
   have hob:=fun q hq=>hown.own_lt (b:=q) hq
   obtain ⟨T,hT⟩:∃ T:Nat->Prop,T=fun b=>(Value.slice A out.length c).ownBlock≠some b:=⟨_,rfl⟩
   rw [<- hT] at hlev
   have HOUT:=Hd hown
   have HLEV:=Hd hlev
   have hwb:=hE.size
   obtain ⟨Al,cl,hlv,hlc1,hlc2⟩:∃ A c,Value.slice A2 lev.length c2 = .slice A lev.length c∧lev.length<=c∧c<=9223372036854775807:=by obtain ⟨A,c,h1,h2,h3,_⟩:=hlev;exact ⟨A,c,h1,h2,h3⟩
   injection hlv with hl1 _ hl2
   subst hl1 hl2
   obtain ⟨vL,uE,mM,fM,s1,s2,s3,s4,s5,s6,s7,s8⟩:=HS.out.ex
   obtain ⟨AL,cL,rfl,hcL,hcL0⟩:=s2.val
   have gL:wb.cell? ⟨g,1,none⟩=some (.slice AL s.ls.length cL):=Ext.keep hE (cell_of_row w _ 1 _ _ _ s1)
   have hgl:g<w.heap.size:=(Array.getElem?_eq_some_iff.1 s1).1
   have HLS:=Hd (qaa.good.bel s2 hE)
   have hf1:=hfacts.out.1
   have hf2:=hfacts.out.2.1
   clear hown hlev s1 s2 s3 s4 s5 s6 s7 s8
   go_wp2_with fail
   go_loopw [8,25] (fun vn vi wr=>∃ (i:Nat) (A':Option Addr) (c':Nat),i<=lev.length∧vi = .int .i64 i∧vn = .slice A' (qcw s (lev.take i)).length c'∧qab RPl 2 204 wb.heap.size T wr (qcw s (lev.take i)) (.slice A' (qcw s (lev.take i)).length c')∧Hid (out.length+(qcw s (lev.take i)).length<=4000)∧Ext wb wr) (fun _ vi _=>lev.length-(intOf vi).toNat)
   case atStart=>exact ⟨0,none,0,Nat.zero_le _,rfl,rfl,qab.nil ..,(by show _<=_;simp [qcw];omega),Ext.refl _⟩
   case round =>
    obtain ⟨i,A',c',hi,rfl,rfl,hnx,hsum,hE2⟩:=hrel
    by_cases hlt2:i<lev.length
    ·obtain ⟨b,off,cs,rfl,hb,hl,hr,hcell⟩:=HLEV.out.get i hlt2
     obtain ⟨tp,sp,rfl,htp,hsp⟩:=id hr
     have a0:=Ext.keep hE2 (hcell.get 0 _)
     have a1:=Ext.keep hE2 (hcell.get 1 _)
     simp only [Nat.add_zero] at a0
     have hpf:=hfacts.out.2.2.1 _ (List.getElem_mem hlt2)
     obtain ⟨p,hp⟩:∃ p,lev[i]=p:=⟨_,rfl⟩
     obtain ⟨rj,hrj⟩:∃ rj:Nat->List Pl,rj=fun j=>qcw s (lev.take i)++(s.ls.take j).flatMap (qfn s p):=⟨_,rfl⟩
     have hr0:Hid (rj 0=qcw s (lev.take i)):=by show _=_;rw [hrj];simp
     have hr1:Hid (∀ j,(h:j<s.ls.length)->rj (j+1)=rj j++qfn s p s.ls[j]):=by
      intro j h
      rw [hrj]
      simp only
      rw [List.take_succ_eq_append_getElem h,List.flatMap_append,List.append_assoc]
      simp
     have hr2:Hid (rj s.ls.length=qcw s (lev.take (i+1))):=by
      show _=_
      rw [List.take_succ_eq_append_getElem hlt2,hp,hrj]
      simp [qcw,plRow]
     have hr3:Hid (∀ j,j<=s.ls.length->(rj j).length<=(qcw s lev).length):=by
      intro j hj
      have h1:qcw s lev=rj s.ls.length++qcw s (lev.drop (i+1)):=by
       rw [hr2.out,qcw,qcw,qcw,<- List.flatMap_append,List.take_append_drop]
      have h2:rj s.ls.length=rj j++(s.ls.drop j).flatMap (qfn s p):=by
       rw [hrj]
       simp only [List.take_length]
       rw [List.append_assoc,<- List.flatMap_append,List.take_append_drop]
      rw [h1,h2]
      simp only [List.length_append]
      omega
     rw [hp] at htp hsp hpf
     have HTP:=Hd htp
     have HSP:=Hd hsp
     obtain ⟨At,ct,rfl,_,_⟩:=htp.val
     obtain ⟨As,cs,rfl,_,_⟩:=hsp.val
     have HNX:=Hd hnx
     have hnb:=fun q hq=>hnx.own_lt (b:=q) hq
     obtain ⟨wc,rfl⟩:∃ wc,wc=wr:=⟨_,rfl⟩
     have hgl2:g<wc.heap.size:=by have:=hE2.size;omega
     have gL2:=Ext.keep hE2 gL
     have hXc:=hE2.alloc (.cells #[.slice At p.tr.length ct,.slice As p.st.length cs] 204)
     have hbp:=World.alloc_heap_new wc (.cells #[.slice At p.tr.length ct,.slice As p.st.length cs] 204)
     have hbp0:=cell_of_row _ _ 0 _ _ _ hbp
     have hbp1:=cell_of_row _ _ 1 _ _ _ hbp
     clear hcell hl hr hrj hnx hp htp hsp hbp
     go_wp2_with fail
     go_loopw [8,35] (fun vn vi wr=>∃ (j:Nat) (A4:Option Addr) (c4:Nat),j<=s.ls.length∧vi = .int .i64 j∧vn = .slice A4 (rj j).length c4∧qab RPl 2 204 wb.heap.size T wr (rj j) (.slice A4 (rj j).length c4)∧(Value.slice A4 (rj j).length c4).ownBlock≠some wc.heap.size∧wr.cell? ⟨wc.heap.size,0,none⟩=some (.slice At p.tr.length ct)∧wr.cell? ⟨wc.heap.size,1,none⟩=some (.slice As p.st.length cs)∧Hid (out.length+(rj j).length<=4000)∧Ext wb wr) (fun _ vi _=>s.ls.length-(intOf vi).toNat)
     case atStart=>exact ⟨0,A',c',Nat.zero_le _,rfl,by rw [hr0.out],by rw [hr0.out];exact HNX.out.ext RPl.good ((Ext.refl _).alloc _),fun e=>by rw [hr0.out] at e;have:=(hnb _ e).2;omega,hbp0,hbp1,by rw [hr0.out];exact hsum.out,hXc⟩
     case round =>
      obtain ⟨j,A4,c4,hj,rfl,rfl,hnx,hno,c0,c1,hsum2,hE3⟩:=hrel
      by_cases hlt3:j<s.ls.length
      ·obtain ⟨b3,off3,cs3,rfl,hb3,hT3,hl3,hr,hcell⟩:=HLS.out.get j hlt3
       obtain ⟨hxi,vx,rfl,hvx⟩:=id hr
       have x0:=Ext.keep hE3 (hcell.get 0 _)
       have x1:=Ext.keep hE3 (hcell.get 1 _)
       simp only [Nat.add_zero] at x0
       obtain ⟨Ax,cx,rfl,_,_⟩:=hvx.val
       have hst4:=Hd (hr1.out j hlt3)
       have hup:=Hd (hr3.out (j+1) hlt3)
       obtain ⟨x,hxx⟩:∃ x,s.ls[j]=x:=⟨_,rfl⟩
       rw [hxx] at hr x0 x1
       have HST4:Hid (rj (j+1)=rj j++qfn s p x):=by show _=_;rw [hst4.out,hxx]
       have HRX:=Hd hr
       have HNX:=Hd hnx
       have hnb4:=fun q hq=>hnx.own_lt (b:=q) hq
       have hbl:=World.block_lt_of_cell? wr _ c0
       have hgl3:g<wr.heap.size:=by have:=hE3.size;omega
       have gL3:=Ext.keep hE3 gL
       have hvis:=qih x.g (.slice Ax x.v.length cx)
       clear hcell hl3 hT3 hr hvx hst4 hxx hnx
       by_cases hvb:qa0 x.g=true
       case neg =>
        have hst:Hid (rj (j+1)=rj j):=by show _=_;rw [HST4.out,qfn,if_neg fun h=>hvb h.1,List.append_nil]
        rw [eq_false_of_ne_true hvb] at hvis
        clear hvb
        go_wp2_with fail
        refine (hvis _).mono ?_
        rintro e w5 ⟨rfl,hx5⟩
        have hx5':=Ext.trans' ((Ext.refl wr).alloc _) hx5
        have c0':=Ext.keep hx5' c0
        have c1':=Ext.keep hx5' c1
        go_wp2_with fail
        go_roundw
        case rel=>exact ⟨j+1,A4,c4,by omega,by go_num,by rw [hst.out],by rw [hst.out];exact HNX.out.ext RPl.good hx5',by rw [hst.out];exact hno,c0',c1',by rw [hst.out];exact hsum2.out,hE3.trans' hx5'⟩
        case measure=>simp [intOf];omega
       rw [hvb] at hvis
       have hbeh:=fun W (hW:Ext wb W)=>qqz (fun _=>True) s hok g p.st x (.slice As p.st.length cs) (.slice Ax x.v.length cx) W ((HS.out.mono fun _ _ _=>trivial).bel (hE.trans' hW)) ((RSl.good qac.good).mono ((RSl.good qac.good).bel HSP.out hW) fun _ _ _=>trivial) (RLb.good.mono (RLb.good.bel HRX.out hW) fun _ _ _=>trivial) (by have:=hpf.2;omega)
       obtain ⟨st,hst⟩:∃ st,qc2 s x p.st=st:=⟨_,rfl⟩
       rw [hst] at hbeh
       by_cases hz:st.length=0
       ·have hsm:Hid (rj (j+1)=rj j):=by show _=_;rw [HST4.out,qfn,if_neg (by rw [hst];omega),List.append_nil]
        have hzd:=decide_eq_false (show ¬ (0:Int)<(st.length:Int) by omega)
        have hsd:out.length+(rj j).length<=4000:=hsum2.out
        clear hvb hst
        go_wp2_with fail
        refine (hvis _).mono ?_
        rintro e w5 ⟨rfl,hx5⟩
        have hx5':=Ext.trans' ((Ext.refl wr).alloc _) hx5
        have hbx:=World.alloc_heap_new wr (.cells #[.int .i64 x.g,.slice Ax x.v.length cx] 61)
        have d0:=Ext.keep hx5 (cell_of_row _ _ 0 _ _ _ hbx)
        have d1:=Ext.keep hx5 (cell_of_row _ _ 1 _ _ _ hbx)
        have c0':=Ext.keep hx5' c0
        have c1':=Ext.keep hx5' c1
        have hxb:Ext wb w5:=hE3.trans' hx5'
        have hbxl:wr.heap.size+1<=w5.heap.size:=by have:=hx5.size;simp at this;omega
        clear hbx
        go_wp2_with fail
        refine (hbeh _ hxb).mono ?_
        rintro e w6 h6
        obtain ⟨A6,c6,rfl,ho6,hx6⟩:=h6.at (b':=w5.heap.size) (Nat.le_refl _)
        have e0:=Ext.keep hx6 c0'
        have e1:=Ext.keep hx6 c1'
        clear h6 ho6
        go_wp2_with fail
        go_roundw
        case rel =>
         have hx56:=hx5'.trans' hx6
         exact ⟨j+1,A4,c4,by omega,by go_num,by rw [hsm.out],by rw [hsm.out];exact HNX.out.ext RPl.good hx56,by rw [hsm.out];exact hno,e0,e1,by rw [hsm.out];exact hsum2.out,hE3.trans' hx56⟩
        case measure=>simp [intOf];omega
       ·have hsm:Hid (rj (j+1)=rj j++[⟨p.tr++[x],st⟩]):=by show _=_;rw [HST4.out,qfn,if_pos ⟨hvb,by rw [hst];omega⟩,hst]
        have hzd:=decide_eq_true (show (0:Int)<(st.length:Int) by omega)
        clear hvb hst
        go_wp2_with fail
        refine (hvis _).mono ?_
        rintro e w5 ⟨rfl,hx5⟩
        have hx5':=Ext.trans' ((Ext.refl wr).alloc _) hx5
        have hbx:=World.alloc_heap_new wr (.cells #[.int .i64 x.g,.slice Ax x.v.length cx] 61)
        have d0:=Ext.keep hx5 (cell_of_row _ _ 0 _ _ _ hbx)
        have d1:=Ext.keep hx5 (cell_of_row _ _ 1 _ _ _ hbx)
        have c0':=Ext.keep hx5' c0
        have c1':=Ext.keep hx5' c1
        have hxb:Ext wb w5:=hE3.trans' hx5'
        have hbxl:wr.heap.size+1<=w5.heap.size:=by have:=hx5.size;simp at this;omega
        clear hbx
        go_wp2_with fail
        refine (hbeh _ hxb).mono ?_
        rintro e w6 h6
        obtain ⟨A6,c6,rfl,ho6,hx6⟩:=h6.at (b':=w5.heap.size) (Nat.le_refl _)
        have e0:=Ext.keep hx6 c0'
        have e1:=Ext.keep hx6 c1'
        have f0:=Ext.keep hx6 d0
        have f1:=Ext.keep hx6 d1
        have hx56:=hx5'.trans' hx6
        have hn6:=HNX.out.ext RPl.good hx56
        have hx6b:Ext wb w6:=hE3.trans' hx56
        have hsz6:=hx6.size
        obtain ⟨S6,hS6⟩:∃ S6:Nat->Prop,S6=fun b=>T b∧b<w6.heap.size∧(Value.slice A4 (rj j).length c4).ownBlock≠some b:=⟨_,rfl⟩
        have hTn:∀ b,w6.heap.size<=b->T b:=fun b hb=>by rw [hT];intro e;have:=(hob b e).2;have:=hx6b.size;omega
        have hTs:∀ b,w5.heap.size<=b->T b:=fun b hb=>by rw [hT];intro e;have:=(hob b e).2;have:=hxb.size;omega
        have hbn:∀ b,(Value.slice A4 (rj j).length c4).ownBlock=some b->(Value.slice A6 st.length c6).ownBlock≠some b:=fun b h1 h2=>by have:=(hnb4 b h1).2;have:=(ho6.own_lt h2).1;omega
        have hx6':RLb (fun b=>T b∧b<w6.heap.size∧(Value.slice A4 (rj j).length c4).ownBlock≠some b) w6 x [.int .i64 x.g,.slice Ax x.v.length cx]:=RLb.good.bel (RLb.good.mono HRX.out fun q hq h=>⟨by rw [hT];intro e;have h':q<w.heap.size:=h;have:=(hob q e).1;omega,by have:=hx6b.size;omega,fun e=>by have:=(hnb4 q e).1;omega⟩) hx6b
        have htp6:qaa S6 w6 p.tr [.slice At p.tr.length ct]:=by
         rw [hS6]
         exact qaa.good.bel (qaa.good.mono HTP.out fun q hq h=>⟨h,by have:=hx6b.size;omega,fun e=>by have:=(hnb4 q e).1;omega⟩) hx6b
        have hpl:p.tr.length<=1000:=by have:=hpf.1;omega
        have hrl:(rj j).length<=1000000:=by have:=hsum2.out;omega
        have hb6:wb.heap.size<=w6.heap.size:=hx6b.size
        have keyA:∀ (w7:World) (A7:Option Addr) (c7:Nat),qab RLb 2 61 (World.heap w6.drew).size S6 w7 p.tr (.slice A7 p.tr.length c7)->Ext w6.drew w7->(w7.cell? ⟨wc.heap.size,0,none⟩=some (.slice At p.tr.length ct)∧w7.cell? ⟨wr.heap.size,0,none⟩=some (.int .i64 x.g)∧w7.cell? ⟨wr.heap.size,1,none⟩=some (.slice Ax x.v.length cx)) ∧
          ∃ g8 c8 w8,(Builtin.append_ #[22,22] 22 #[.slice A7 p.tr.length c7,.slice (some ⟨w7.heap.size,0,none⟩) 1 1]).run Tryz.prog (w7.alloc (.cells #[.int .i64 x.g,.slice Ax x.v.length cx] 61)) = .ok (.slice (some ⟨g8,0,none⟩) (p.tr.length+1) c8) w8∧(w8.cell? ⟨wc.heap.size,0,none⟩=some (.slice At p.tr.length ct)∧w8.cell? ⟨wr.heap.size,0,none⟩=some (.int .i64 x.g)∧w8.cell? ⟨wr.heap.size,1,none⟩=some (.slice Ax x.v.length cx)) ∧
          ∃ g9 c9 w9,(Builtin.append_ #[200,200] 200 #[.slice A4 (rj j).length c4,.slice (some ⟨w8.heap.size,0,none⟩) 1 1]).run Tryz.prog (w8.alloc (.cells #[.slice (some ⟨g8,0,none⟩) (p.tr.length+1) c8,.slice A6 st.length c6] 204)) = .ok (.slice (some ⟨g9,0,none⟩) ((rj j).length+1) c9) w9∧(w9.cell? ⟨wc.heap.size,0,none⟩=some (.slice At p.tr.length ct)∧w9.cell? ⟨wr.heap.size,0,none⟩=some (.int .i64 x.g)∧w9.cell? ⟨wr.heap.size,1,none⟩=some (.slice Ax x.v.length cx))∧(qab RPl 2 204 wb.heap.size T w9 (rj (j+1)) (.slice (some ⟨g9,0,none⟩) (rj (j+1)).length c9)∧(Value.slice (some ⟨g9,0,none⟩) (rj (j+1)).length c9).ownBlock≠some wc.heap.size∧w9.cell? ⟨wc.heap.size,0,none⟩=some (.slice At p.tr.length ct)∧w9.cell? ⟨wc.heap.size,1,none⟩=some (.slice As p.st.length cs)∧Ext wb w9):=fun w7 A7 c7 ho hx=>by
         have hsz:w6.heap.size<=(World.heap w6.drew).size:=Nat.le_refl _
         have h67:Ext w6 w7:=Ext.trans' (Ext.refl w6).drew hx
         obtain ⟨g8,c8,w8,hr8,hx8,g9,c9,w9,hr9,ho9,hb9,ha9⟩:=plApp wb.heap.size T w6 w7 (w7.alloc (.cells #[.int .i64 x.g,.slice Ax x.v.length cx] 61)) (rj j) st p.tr x (.slice A4 (rj j).length c4) (.slice A6 st.length c6) (.slice A7 p.tr.length c7) (.slice Ax x.v.length cx) (w7.heap.size) _ w5.heap.size hn6 ho6
          (by rw [hS6] at ho;exact ho) h67 ((Ext.refl _).alloc _) hsz hx.size hb6 hTn hTs hbn
          (qew w7 #[.int .i64 x.g,.slice Ax x.v.length cx] 61) hx6' hpl hrl
         have hb9':Ext wb w9:=Bt.new hx6b hb9 fun b _ h=>(hnb4 b h).1
         have hwr:¬ (Value.slice A4 (rj j).length c4).ownBlock=some wr.heap.size:=fun h=>by have:=(hnb4 _ h).2;omega
         refine ⟨⟨Ext.keep h67 e0,Ext.keep h67 f0,Ext.keep h67 f1⟩,g8,c8,w8,hr8,⟨Ext.keep hx8 e0,Ext.keep hx8 f0,Ext.keep hx8 f1⟩,g9,c9,w9,hr9,⟨hb9.cell e0 hno,hb9.cell f0 hwr,hb9.cell f1 hwr⟩,?_⟩
         have hlen:(rj (j+1)).length=(rj j).length+1:=by rw [hsm.out,List.length_append];rfl
         rw [hlen,hsm.out]
         refine ⟨ho9,fun e=>?_,hb9.cell e0 hno,hb9.cell e1 hno,hb9'⟩
         have hg:g9=wc.heap.size:=by injection e
         rcases ha9 with h | h
         ·rw [hg] at h;exact hno h
         ·omega
        have keyB:∀ (w7:World) (A7:Option Addr) (c7:Nat),qab RLb 2 61 (World.heap (w6.alloc (.cells #[.int .i64 x.g,.slice Ax x.v.length cx] 61)).drew).size S6 w7 p.tr (.slice A7 p.tr.length c7)->Ext (w6.alloc (.cells #[.int .i64 x.g,.slice Ax x.v.length cx] 61)).drew w7->(w7.cell? ⟨wc.heap.size,0,none⟩=some (.slice At p.tr.length ct)∧w7.cell? ⟨wr.heap.size,0,none⟩=some (.int .i64 x.g)∧w7.cell? ⟨wr.heap.size,1,none⟩=some (.slice Ax x.v.length cx)) ∧
          ∃ g8 c8 w8,(Builtin.append_ #[22,22] 22 #[.slice A7 p.tr.length c7,.slice (some ⟨w6.heap.size,0,none⟩) 1 1]).run Tryz.prog w7 = .ok (.slice (some ⟨g8,0,none⟩) (p.tr.length+1) c8) w8∧(w8.cell? ⟨wc.heap.size,0,none⟩=some (.slice At p.tr.length ct)∧w8.cell? ⟨wr.heap.size,0,none⟩=some (.int .i64 x.g)∧w8.cell? ⟨wr.heap.size,1,none⟩=some (.slice Ax x.v.length cx)) ∧
          ∃ g9 c9 w9,(Builtin.append_ #[200,200] 200 #[.slice A4 (rj j).length c4,.slice (some ⟨w8.heap.size,0,none⟩) 1 1]).run Tryz.prog (w8.alloc (.cells #[.slice (some ⟨g8,0,none⟩) (p.tr.length+1) c8,.slice A6 st.length c6] 204)) = .ok (.slice (some ⟨g9,0,none⟩) ((rj j).length+1) c9) w9∧(w9.cell? ⟨wc.heap.size,0,none⟩=some (.slice At p.tr.length ct)∧w9.cell? ⟨wr.heap.size,0,none⟩=some (.int .i64 x.g)∧w9.cell? ⟨wr.heap.size,1,none⟩=some (.slice Ax x.v.length cx))∧(qab RPl 2 204 wb.heap.size T w9 (rj (j+1)) (.slice (some ⟨g9,0,none⟩) (rj (j+1)).length c9)∧(Value.slice (some ⟨g9,0,none⟩) (rj (j+1)).length c9).ownBlock≠some wc.heap.size∧w9.cell? ⟨wc.heap.size,0,none⟩=some (.slice At p.tr.length ct)∧w9.cell? ⟨wc.heap.size,1,none⟩=some (.slice As p.st.length cs)∧Ext wb w9):=fun w7 A7 c7 ho hx=>by
         have hsz:w6.heap.size<=(World.heap (w6.alloc (.cells #[.int .i64 x.g,.slice Ax x.v.length cx] 61)).drew).size:=by show _<=(World.heap (w6.alloc _)).size;simp
         have h67:Ext w6 w7:=Ext.trans' ((Ext.refl w6).alloc (.cells #[.int .i64 x.g,.slice Ax x.v.length cx] 61)).drew hx
         obtain ⟨g8,c8,w8,hr8,hx8,g9,c9,w9,hr9,ho9,hb9,ha9⟩:=plApp wb.heap.size T w6 w7 w7 (rj j) st p.tr x (.slice A4 (rj j).length c4) (.slice A6 st.length c6) (.slice A7 p.tr.length c7) (.slice Ax x.v.length cx) (w6.heap.size) _ w5.heap.size hn6 ho6
          (by rw [hS6] at ho;exact ho) h67 (Ext.refl _) hsz hx.size hb6 hTn hTs hbn
          (fun j u hj=>by rw [Addr.add_lit,Nat.zero_add];exact Ext.keep hx ((cell_of_row _ _ j _ _ _ (World.alloc_heap_new w6 (.cells #[.int .i64 x.g,.slice Ax x.v.length cx] 61))).trans (by simpa using hj))) hx6' hpl hrl
         have hb9':Ext wb w9:=Bt.new hx6b hb9 fun b _ h=>(hnb4 b h).1
         have hwr:¬ (Value.slice A4 (rj j).length c4).ownBlock=some wr.heap.size:=fun h=>by have:=(hnb4 _ h).2;omega
         refine ⟨⟨Ext.keep h67 e0,Ext.keep h67 f0,Ext.keep h67 f1⟩,g8,c8,w8,hr8,⟨Ext.keep hx8 e0,Ext.keep hx8 f0,Ext.keep hx8 f1⟩,g9,c9,w9,hr9,⟨hb9.cell e0 hno,hb9.cell f0 hwr,hb9.cell f1 hwr⟩,?_⟩
         have hlen:(rj (j+1)).length=(rj j).length+1:=by rw [hsm.out,List.length_append];rfl
         rw [hlen,hsm.out]
         refine ⟨ho9,fun e=>?_,hb9.cell e0 hno,hb9.cell e1 hno,hb9'⟩
         have hg:g9=wc.heap.size:=by injection e
         rcases ha9 with h | h
         ·rw [hg] at h;exact hno h
         ·omega
        have HA:=Hd keyA
        have HB:=Hd keyB
        have hcl:=fun W (hW:Ext w6 W)=>qn3 S6 p.tr (.slice At p.tr.length ct) W (qaa.good.bel htp6 hW) (by omega)
        have HS6:=Hd hS6
        have HO6:=Hd ho6
        have hup2:(rj j).length+1<=(qcw s lev).length:=by have:=hup.out;rw [hsm.out,List.length_append] at this;exact this
        clear keyA keyB hS6 ho6 hn6 hx6' htp6 hTn hTs hbn h6
        go_wp2_with fail
        go_region_held3 (fun W=>W.cell? ⟨wc.heap.size,0,none⟩=some (.slice At p.tr.length ct)∧W.cell? ⟨wr.heap.size,0,none⟩=some (.int .i64 x.g)∧W.cell? ⟨wr.heap.size,1,none⟩=some (.slice Ax x.v.length cx))
         (first | (refine ⟨?_,?_,?_⟩ <;> go_simp <;> done) | (have hq:=k9;exact hq) | (have hq:=k8;exact hq) | (have hq:=k7;exact hq) | (have hq:=k7;exact Ext.k3 ((Ext.refl _).alloc _) hq) | (have hq:=k8;exact Ext.k3 ((Ext.refl _).alloc _) hq) | exact Ext.k3 ((Ext.refl _).alloc _) (by assumption))
         (first
         | (go_at_call 39;refine (hcl _ bel).mono ?_;rintro e w7 ⟨v7,rfl,ho7,hx7⟩;obtain ⟨A7,c7,rfl,hc7,hc70⟩:=(ho7.sl RLb.good (by decide)).val;first | (have hq7:Ext w6.drew w7:=hx7;obtain ⟨k7,g8,c8,w8,hr8,k8,g9,c9,w9,hr9,k9,fin9⟩:=HA.out w7 A7 c7 ho7 hq7) | (have hq7:Ext (w6.alloc (.cells #[.int .i64 x.g,.slice Ax x.v.length cx] 61)).drew w7:=hx7;obtain ⟨k7,g8,c8,w8,hr8,k8,g9,c9,w9,hr9,k9,fin9⟩:=HB.out w7 A7 c7 ho7 hq7))
         | (refine qfx rfl _ _ _ rfl _ _ _ rfl rfl hr8 ?_)
         | (refine qfx rfl _ _ _ rfl _ _ _ rfl rfl hr9 ?_))
        all_goals
         obtain ⟨q1,q2,q3,q4,q5⟩:=fin9
         have hlen9:(rj (j+1)).length=(rj j).length+1:=by rw [hsm.out,List.length_append];rfl
         by_cases hlim:4000<out.length+(rj j).length+1
         ·have HF:Hid (qe2 s depth=none):=by
           show _=_
           rw [<- hfacts.out.2.2.2,show depth-k=(depth-k-1)+1 from by omega,qeo,if_pos (by omega)]
          clear hlen9
          go_wp2_with fail
          go_ret2
          rw [HF.out]
          exact ⟨none,0,rfl,⟨none,0,rfl,Nat.le_refl _,by decide,.inl rfl⟩,hE.trans' q5⟩
         ·have hlen8:=Hd hlen9
          clear hlen9
          go_wp2_with fail
          go_roundw
          case rel=>exact ⟨j+1,some ⟨g9,0,none⟩,c9,by omega,by go_num,by rw [hlen8.out],q1,q2,q3,q4,(by show _<=_;rw [hlen8.out];omega),q5⟩
          case measure=>simp [intOf];omega
      ·obtain rfl:j=s.ls.length:=by omega
       rw [hr2.out] at hnx hsum2
       have hr4:=Hd hr2
       have HNX:=Hd hnx
       clear hnx
       go_wp2_with fail
       go_roundw
       case rel=>exact ⟨i+1,A4,c4,by omega,by go_num,by rw [hr4.out.out],HNX.out,hsum2,hE3⟩
       case measure=>simp [intOf];omega
    ·obtain rfl:i=lev.length:=by omega
     rw [List.take_length] at hnx hsum ⊢
     have hnb:=fun q hq=>hnx.own_lt (b:=q) hq
     have ho2:=HOUT.out.ext RPl.good hE2
     obtain ⟨nx,hnxe⟩:∃ nx,qcw s lev=nx:=⟨_,rfl⟩
     have hgo:Hid (qeo s (depth-(k+1)) (out++nx) nx=qe2 s depth):=by
      show _=_
      have h1:=hsum.out
      rw [<- hfacts.out.2.2.2,show depth-k=(depth-(k+1))+1 from by omega,qeo,if_neg (by omega),hnxe]
     have hps:Hid (∀ p∈nx,p.tr.length<=k+1∧p.st.length<=1000000):=by
      intro p hp
      rw [<- hnxe] at hp
      obtain ⟨q,hq,hp⟩:=List.mem_flatMap.1 hp
      obtain ⟨x,hx,hp⟩:=List.mem_flatMap.1 hp
      unfold qfn at hp
      split at hp
      ·rw [List.mem_singleton.1 hp]
       have h1:=hfacts.out.2.2.1 q hq
       have h2:=qok s x q.st
       have h3:=hok.2.2.2.1
       simp only [List.length_append,List.length_cons,List.length_nil]
       exact ⟨by omega,by omega⟩
      ·simp at hp
     rw [hnxe] at hnx hsum hnb ⊢
     have hsm:=hsum.out
     obtain ⟨news,hrow,hF⟩:=ho2
     obtain ⟨news2,hrow2,hF2⟩:=id hnx
     rcases Joins.ownsRow_forms hrow2 with ⟨hv,h0⟩ | ⟨g',cap',hv⟩
     ·injection hv with hv1 hv2 hv3
      subst hv1 hv3
      have hnil:nx=[]:=List.length_eq_zero_iff.1 h0
      subst hnil
      have hoc:out.length<=c∧c<=9223372036854775807:=by obtain ⟨A',c',h1,h2,h3,_⟩:=HOUT.out.slx;injection h1 with _ _ h1;omega
      have hrn:=run_append_nothing wr 200 200 204 i3 _ Tryz.underlying200 hi3 hz0 (by omega) A out.length c hoc.1 hoc.2
      have HO2:Hid (qab RPl 2 204 w.heap.size (fun _=>True) wr out (.slice A out.length c)):=⟨news,hrow,hF⟩
      go_wp2_with (at_builtin;refine Lib.wpList_append_run _ rfl _ _ _ _ rfl _ _ rfl rfl _ _ hrn ?_)
      go_roundw
      case rel=>exact ⟨k+1,out,[],A,c,none,0,by omega,by go_num,rfl,rfl,HO2.out,⟨none,0,rfl,Nat.le_refl _,by decide,.inl rfl⟩,⟨hf1,by simp,by simp,by have:=hgo.out;rwa [List.append_nil] at this⟩,hE.trans' hE2⟩
      case measure=>simp [intOf];omega
     ·injection hv with hv1 _ hv3
      subst hv1 hv3
      have hcc:∀ j u,news2[j]? = some u->wr.cell? ((⟨g',0,none⟩:Addr).add j)=some u:=hrow2.cells rfl
      have hn2:=hF2.len
      have h1c:=hF2.one RPl.good
      have hszE:=hE2.size
      have hF2':Flat RPl 2 (fun b=>True∧(Value.slice A out.length c).ownBlock≠some b) wr nx news2:=hF2.imp fun y _ cs hy=>RPl.good.mono hy fun b _ hb=>⟨trivial,by have:=hb.1;rwa [hT] at this⟩
      have HF:=Hd hF
      have HF2:=Hd hF2'
      have HNX:=Hd hnx
      clear hF hF2 hF2' hnx hrow2
      go_wp2_with (at_builtin;refine wpList_append_own_at _ rfl _ _ 200 rfl w.heap.size 204 i3 _ 2 48 Tryz.underlying200 hi3 hz0 hz1 hz2 rfl (by decide) _ _ _ rfl hrow ⟨g',0,none⟩ nx.length c' news2 rfl hn2 hcc h1c (by unfold maxLen;omega) (by omega) (by omega) ?_;intro v5 w5 hown5 hgrow5 hnil5 hat5)
      have hp5:=qab.push RPl.good HF.out HF2.out hown5 hgrow5 hat5
      obtain ⟨A5,c5,hv5,hv51,hv52,_⟩:=hp5.slx
      subst hv5
      have hX5:Ext w w5:=Below.grown (hE.trans' hE2) hgrow5 (by omega) fun q hq=>(hob q hq).1
      have hlev5:qdu RPl 2 (fun b=>(Value.slice A5 (out++nx).length c5).ownBlock≠some b) w5 nx (.slice (some ⟨g',0,none⟩) nx.length c'):=by
       refine qdu.turn RPl.good HNX.out.slx ((Bt.of_grown hgrow5).mono (Z':=fun b=>(Value.slice A out.length c).ownBlock=some b) fun b _ h=>h.symm) (fun b hb e=>?_) (fun b off c n e=>?_) fun b hb h=>⟨fun e=>?_,fun e=>?_⟩
       ·have:=(hob b hb).2;have:=(hnb b e).1;omega
       ·injection e with e;injection e with e;injection e with e1 e2;exact e2.symm
       ·have:=h.1;rw [hT] at this;exact this e
       ·rcases hat5 with h5 | h5
        ·rw [h5] at e;have:=h.1;rw [hT] at this;exact this e
        ·rw [h5] at e;injection e with e;omega
      have HP5:=Hd hp5
      have HL5:=Hd hlev5
      have hlen5:Hid ((out++nx).length<=4000):=by show _<=_;rw [List.length_append];omega
      clear hown5 hgrow5 hat5 hnil5 hrow hcc hp5 hlev5
      go_wp2_with fail
      go_roundw
      case rel=>exact ⟨k+1,out++nx,nx,A5,c5,some ⟨g',0,none⟩,c',by omega,by go_num,rfl,rfl,HP5.out,HL5.out,⟨hlen5.out,by omega,hps.out,hgo.out⟩,hX5⟩
      case measure=>simp [intOf];omega
  ·obtain rfl:k=depth:=by omega
   have hfin:Hid (qe2 s k=some out):=by
    show _=_
    rw [<- hfacts.out.2.2.2,Nat.sub_self,qeo]
   have HO:=Hd hown
   clear hown hlev
   go_wp2_with fail
   go_ret2
   rw [hfin.out]
   refine ⟨A,c,rfl,?_,hE⟩
   obtain ⟨A3,c3,h1,h2,h3,h4⟩:=HO.out.slx
   refine ⟨A3,c3,h1,h2,h3,h4.imp id ?_⟩
   rintro ⟨b,off,h5,h6,h7⟩
   exact ⟨b,off,h5,h6,h7.imp (fun y _ cs hy=>RPl.good.mono hy fun q _ hq=>trivial) rfl⟩
end
section
set_option maxHeartbeats 1000000
set_option maxRecDepth 100000
/- suite.generate,Generate: walked. -/
open Go.Shelf
theorem plNext_ok (s:Sy) (k:Nat) (lev:List Pl) (h:∀ p∈lev,p.tr.length<=k∧(∀ x∈p.tr,x∈s.ls)∧p.st.length<=s.es.length+1):∀ p∈qcw s lev,p.tr.length<=k+1∧(∀ x∈p.tr,x∈s.ls)∧p.st.length<=s.es.length+1:=fun p hp=>by
 obtain ⟨q,hq,hp⟩:=List.mem_flatMap.1 hp
 obtain ⟨x,hx,hp⟩:=List.mem_flatMap.1 hp
 unfold qfn at hp
 split at hp
 ·rw [List.mem_singleton.1 hp]
  obtain ⟨h1,h2,_⟩:=h q hq
  have h3:=qok s x q.st
  refine ⟨by simp only [List.length_append,List.length_cons,List.length_nil];omega,fun y hy=>?_,by show (qc2 s x q.st).length<=_;omega⟩
  rcases List.mem_append.1 hy with hy | hy
  ·exact h2 y hy
  ·rw [List.mem_singleton.1 hy];exact hx
 ·simp at hp
theorem qs5 (s:Sy):∀ (d k:Nat) (out lev r:List Pl),(∀ p∈out,p.tr.length<=k∧(∀ x∈p.tr,x∈s.ls)∧p.st.length<=s.es.length+1)->(∀ p∈lev,p.tr.length<=k∧(∀ x∈p.tr,x∈s.ls)∧p.st.length<=s.es.length+1)->out.length<=4000->qeo s d out lev=some r ->
  (∀ p∈r,p.tr.length<=k+d∧(∀ x∈p.tr,x∈s.ls)∧p.st.length<=s.es.length+1)∧r.length<=4000
 | 0,k,out,lev,r,h,_,hl,e=>by rw [qeo] at e;injection e with e;rw [<- e];exact ⟨h,hl⟩
 | d+1,k,out,lev,r,h,h',hl,e=>by
  rw [qeo] at e
  split at e
  ·cases e
  ·rename_i hn
   have h1:=plNext_ok s k lev h'
   have h2:=qs5 s d (k+1) _ _ r (fun p hp=>by
    rcases List.mem_append.1 hp with hp | hp
    ·have:=h p hp;exact ⟨by omega,this.2⟩
    ·exact h1 p hp) h1 (by rw [List.length_append];omega) e
   exact ⟨fun p hp=>by have:=h2.1 p hp;exact ⟨by omega,this.2⟩,h2.2⟩
theorem qrt (s:Sy) (d:Nat):(∀ p∈qbs (qe2 s d),p.tr.length<=d∧(∀ x∈p.tr,x∈s.ls)∧p.st.length<=s.es.length+1)∧(qbs (qe2 s d)).length<=4000:=by
 cases h:qe2 s d with
 | none=>simp [qbs]
 | some r =>
  have h0:∀ p∈[(⟨[],qau s [0]⟩:Pl)],p.tr.length<=0∧(∀ x∈p.tr,x∈s.ls)∧p.st.length<=s.es.length+1:=fun p hp=>by
   rw [List.mem_singleton.1 hp]
   have h1:=qj2 s [0]
   have:=qf6 s [0]
   simp only [List.length_cons,List.length_nil] at h1
   exact ⟨Nat.le_refl _,by simp,by show (qau s [0]).length<=_;omega⟩
  have:=qs5 s d 0 _ _ r h0 h0 (by simp) h
  simpa [qbs] using this
def qdg (s:Sy):List Pl->List Te->Option (List Te)
 | [],out=>some out
 | p :: ps,out=>match qbk s p.st with
  | none=>none
  | some ms=>if 4000<(out++ms.map (Te.mk p.tr)).length then none else qdg s ps (out++ms.map (Te.mk p.tr))
def qb3 (s:Sy) (d:Nat):Option (List Te):=match qe2 s d with
 | none=>none
 | some pls=>qdg s pls []
theorem infoTea:(Tryz.prog.info? 40).map (fun i=>(i.zero,i.size,i.bytes))=some (some (.agg #[.slice none 0 0,.slice none 0 0]),2,48):=by kernel_rfl
theorem qrf (S:Nat->Prop) (s:Sy) (hok:qag s) (hsm:qer s) (g:Nat) (d:Nat) (w:World) (hS:qav S w g s) (hd:d<=8) :
  Calls Tryz.prog 88 #[.pointer (some ⟨g,0,none⟩),.int .i64 (d:Int)] w (qmi RTe 2 40 (qbs (qb3 s d)) (errO (qb3 s d)) w):=by
 have HS:Hid (qav (fun b=>b<w.heap.size) w g s):=hS.mono fun b hb _=>hb
 have hpl:=places_c S s hok g d w hS hd
 have hpo:=qrt s d
 clear hS
 cases hp:qe2 s d with
 | none =>
  have HV:Hid (qb3 s d=none):=by show _=_;rw [qb3,hp]
  rw [hp] at hpl
  replace hpl:Calls Tryz.prog 160 #[.pointer (some ⟨g,0,none⟩),.int .i64 (d:Int)] w fun e w'=>∃ A c,e = .returned (.tuple #[.slice A 0 c,.int .i64 2])∧qdu RPl 2 (fun _=>True) w' [] (.slice A 0 c)∧Ext w w':=hpl.mono fun _ _ h=>h
  clear hp hpo
  go_enter Tryz.func88,Tryz.ntmps88
  go_wp2_with fail
  refine hpl.mono ?_
  rintro e w1 ⟨A1,c1,rfl,hr1,hx1⟩
  go_wp2_with fail
  go_ret2
  rw [HV.out]
  exact ⟨none,0,rfl,qab.nil ..,hx1⟩
 | some pls =>
  have HV:Hid (qb3 s d=qdg s pls []):=by show _=_;rw [qb3,hp]
  rw [hp] at hpl hpo
  replace hpl:Calls Tryz.prog 160 #[.pointer (some ⟨g,0,none⟩),.int .i64 (d:Int)] w fun e w'=>∃ A c,e = .returned (.tuple #[.slice A pls.length c,.int .i64 0])∧qdu RPl 2 (fun _=>True) w' pls (.slice A pls.length c)∧Ext w w':=hpl.mono fun _ _ h=>h
  simp only [qbs] at hpo
  obtain ⟨i3,hi3,hzz⟩:=Option.map_eq_some_iff.1 infoTea
  simp only [Prod.mk.injEq] at hzz
  obtain ⟨hz0,hz1,hz2⟩:=hzz
  clear hp
  go_enter Tryz.func88,Tryz.ntmps88
  go_wp2_with fail
  refine hpl.mono ?_
  rintro e wl ⟨A1,c1,rfl,hr1,hx1⟩
  have HPL:=Hd hr1
  have hgl:g<w.heap.size:=by obtain ⟨_,_,_,_,h1,_⟩:=HS.out.ex;exact (Array.getElem?_eq_some_iff.1 h1).1
  clear hr1 hpl
  go_wp2_with fail
  go_loopw [8,26] (fun vo vi wr=>∃ (i:Nat) (out:List Te) (A:Option Addr) (c:Nat),i<=pls.length∧vi = .int .i64 i∧vo = .slice A out.length c∧qab RTe 2 40 wl.heap.size (fun _=>True) wr out (.slice A out.length c)∧Hid (out.length<=4000∧qdg s (pls.drop i) out=qdg s pls [])∧Ext wl wr) (fun _ vi _=>pls.length-(intOf vi).toNat)
  case atStart=>exact ⟨0,[],none,0,Nat.zero_le _,rfl,rfl,qab.nil ..,⟨by simp,rfl⟩,Ext.refl _⟩
  case round =>
   obtain ⟨i,out,A,c,hi,rfl,rfl,hown,hgo,hE⟩:=hrel
   by_cases hlt:i<pls.length
   ·obtain ⟨b,off,cs,rfl,hb,hl,hr,hcell⟩:=HPL.out.get i hlt
    obtain ⟨tp,sp,rfl,htp,hsp⟩:=id hr
    have a0:=Ext.keep hE (hcell.get 0 _)
    have a1:=Ext.keep hE (hcell.get 1 _)
    simp only [Nat.add_zero] at a0
    have hpf:=hpo.1 _ (List.getElem_mem hlt)
    have hgs:=hgo.out.2
    rw [List.drop_eq_getElem_cons hlt] at hgs
    obtain ⟨p,hp⟩:∃ p,pls[i]=p:=⟨_,rfl⟩
    rw [hp] at hpf htp hsp hgs
    have hob:=fun q hq=>hown.own_lt (b:=q) hq
    have hwl:=hx1.size
    have hszE:=hE.size
    have hmc:=fun W (hW:Ext wr W) vs (hv:RSl qac 1 (fun _=>True) W p.st [vs])=>musts_c (fun b=>(Value.slice A out.length c).ownBlock≠some b) (fun _=>True) s hok g p.st vs W ((HS.out.bel (hx1.trans' (hE.trans' hW))).mono fun q _ hq e=>by have:=(hob q e).1;omega) (fun q hq e=>by have:=(hob q e).2;have:=hW.size;omega) hv (by have:=hpf.2.2;have:=hok.2.2.2.1;omega)
    obtain ⟨At,ct,rfl,_,_⟩:=htp.val
    obtain ⟨As,cst,rfl,_,_⟩:=hsp.val
    have HO:=Hd hown
    have HSP:=Hd ((RSl.good qac.good).bel hsp hE)
    have HTP:Hid (qaa (fun b=>b<wl.heap.size) wl p.tr [.slice At p.tr.length ct]):=qaa.good.mono htp fun b hb _=>hb
    clear hr htp hsp hl hcell hp hown
    cases hm:qbk s p.st with
    | none =>
     have HF:Hid (qb3 s d=none):=by show _=_;rw [HV.out,<- hgs,qdg,hm]
     rw [hm] at hmc
     have hmc2:∀ W,Ext wr W->∀ vs,RSl qac 1 (fun _=>True) W p.st [vs]->Calls Tryz.prog 80 #[.pointer (some ⟨g,0,none⟩),vs] W fun e w'=>∃ A' c',e = .returned (.tuple #[.slice A' 0 c',.int .i64 2])∧qab qaa 1 22 W.heap.size (fun b=>(Value.slice A out.length c).ownBlock≠some b) w' [] (.slice A' 0 c')∧Ext W w':=fun W hW vs hv=>(hmc W hW vs hv).mono fun _ _ h=>h
     clear hgs hm hmc
     go_wp2_with fail
     refine (hmc2 _ ((Ext.refl _).alloc _) _ ((RSl.good qac.good).bel HSP.out ((Ext.refl _).alloc _))).mono ?_
     rintro e w2 ⟨A2,c2,rfl,hr2,hx2⟩
     go_wp2_with fail
     go_ret2
     rw [HF.out]
     exact ⟨none,0,rfl,qab.nil ..,hx1.trans' (hE.trans' (Ext.trans' ((Ext.refl _).alloc _) hx2))⟩
    | some ms =>
     have hml:=qk3 s p.st
     have hsub:=qnk s p.st
     rw [hm] at hmc hml hsub
     have hmc2:∀ W,Ext wr W->∀ vs,RSl qac 1 (fun _=>True) W p.st [vs]->Calls Tryz.prog 80 #[.pointer (some ⟨g,0,none⟩),vs] W fun e w'=>∃ A' c',e = .returned (.tuple #[.slice A' ms.length c',.int .i64 0])∧qab qaa 1 22 W.heap.size (fun b=>(Value.slice A out.length c).ownBlock≠some b) w' ms (.slice A' ms.length c')∧Ext W w':=fun W hW vs hv=>(hmc W hW vs hv).mono fun _ _ h=>h
     simp only [qbs] at hml hsub
     clear hmc
     have hgs2:Hid (qdg s pls []=if 4000<(out++ms.map (Te.mk p.tr)).length then none else qdg s (pls.drop (i+1)) (out++ms.map (Te.mk p.tr))):=by show _=_;rw [<- hgs,qdg,hm]
     clear hgs hm
     go_wp2_with fail
     refine (hmc2 _ ((Ext.refl _).alloc _) _ ((RSl.good qac.good).bel HSP.out ((Ext.refl _).alloc _))).mono ?_
     rintro e w2 ⟨A2,c2,rfl,hr2,hx2⟩
     have hbp:=World.alloc_heap_new wr (.cells #[.slice At p.tr.length ct,.slice As p.st.length cst] 204)
     have e0:=Ext.keep hx2 (cell_of_row _ _ 0 _ _ _ hbp)
     have hx2':=Ext.trans' ((Ext.refl wr).alloc _) hx2
     have hz2':wr.heap.size+1<=w2.heap.size:=by have:=hx2.size;simp at this;omega
     have HMR:=Hd hr2
     obtain ⟨wa,rfl⟩:∃ wa,wa=wr:=⟨_,rfl⟩
     have hmb:=fun q hq=>hr2.own_lt (b:=q) hq
     obtain ⟨Z,hZ⟩:∃ Z:Nat->Prop,Z=fun q=>(Value.slice A out.length c).ownBlock=some q:=⟨_,rfl⟩
     obtain ⟨oj,hoj⟩:∃ oj:Nat->List Te,oj=fun j=>out++(ms.take j).map (Te.mk p.tr):=⟨_,rfl⟩
     have ho0:Hid (oj 0=out):=by show _=_;rw [hoj];simp
     have ho1:Hid (∀ j,(h:j<ms.length)->oj (j+1)=oj j++[Te.mk p.tr ms[j]]):=by
      intro j h
      rw [hoj]
      simp only
      rw [List.take_succ_eq_append_getElem h,List.map_append,List.append_assoc]
      rfl
     have ho2:Hid (oj ms.length=out++ms.map (Te.mk p.tr)):=by show _=_;rw [hoj];simp only [List.take_length]
     have ho3:Hid (∀ j,(oj j).length<=4000+2000):=by
      intro j
      have h1:=hgo.out.1
      have h2:=hml.1
      rw [hoj]
      simp only [List.length_append,List.length_map,List.length_take]
      omega
     have HO2:=HO.out.ext RTe.good hx2'
     have HOW:=Hd HO2
     have hXw2:Ext wl w2:=hE.trans' hx2'
     clear hbp hr2 hoj HO2
     go_wp2_with fail
     go_loopw [8,42] (fun vo vi wr=>∃ (j:Nat) (A3:Option Addr) (c3:Nat),j<=ms.length∧vi = .int .i64 j∧vo = .slice A3 (oj j).length c3∧qab RTe 2 40 wl.heap.size (fun _=>True) wr (oj j) (.slice A3 (oj j).length c3)∧Hid (Bt Z w2 wr∧(Z=(fun q=>(Value.slice A3 (oj j).length c3).ownBlock=some q)∨∀ q,(Value.slice A3 (oj j).length c3).ownBlock=some q->w2.heap.size<=q))∧Ext wl wr) (fun _ vi _=>ms.length-(intOf vi).toNat)
     case atStart=>exact ⟨0,A,c,Nat.zero_le _,rfl,by rw [ho0.out],by rw [ho0.out];exact HOW.out,⟨Bt.refl _ _,.inl (by rw [hZ,ho0.out])⟩,hXw2⟩
     case round =>
      obtain ⟨j,A3,c3,hj,rfl,rfl,hown3,hbz,hE3⟩:=hrel
      have hlj:=ho3.out j
      by_cases hltj:j<ms.length
      ·obtain ⟨news4,hrow4,_⟩:=id HMR.out
       obtain ⟨g4,cap4,he4⟩:=Joins.ownsRow_form hrow4 (by omega)
       injection he4 with he41 _ he42
       subst he41 he42
       have hg4:=(hmb g4 rfl)
       simp only [World.size_alloc] at hg4
       obtain ⟨u,gc,hru,_⟩:=HMR.out.get1 j hltj
       obtain ⟨Am,cm,rfl,_,_⟩:=hru.val
       have hZno:∀ q,wa.heap.size<=q->¬ Z q:=fun q hq h=>by rw [hZ] at h;have:=(hob q h).2;omega
       have gcr:=hbz.out.1.cell gc (hZno g4 (by omega))
       have e0r:=hbz.out.1.cell e0 (hZno wa.heap.size (Nat.le_refl _))
       have hru2:qaa (fun q=>(Value.slice A out.length c).ownBlock≠some q∧q<w2.heap.size) wr ms[j] [.slice Am ms[j].length cm] :=
        qaa.good.move (qaa.good.mono hru fun q hq h=>⟨h.1,hq⟩) (hbz.out.1.kp fun q _ h hz=>by rw [hZ] at hz;exact h.1 hz)
       have hst:=Hd (ho1.out j hltj)
       have hml2:=hml.2 _ (List.getElem_mem hltj)
       have hms:=hsub _ (List.getElem_mem hltj)
       obtain ⟨m,hmm⟩:∃ m,ms[j]=m:=⟨_,rfl⟩
       rw [hmm] at hru2 gcr hml2 hms
       have HST:Hid (oj (j+1)=oj j++[⟨p.tr,m⟩]):=by show _=_;rw [hst.out,hmm]
       have hcp1:=qmc (fun b=>b<wl.heap.size) p.tr _ wr (qaa.good.bel HTP.out hE3) (fun x hx=>hsm x (hpf.2.1 x hx)) (by have:=hpf.1;omega)
       have hcp2:=fun W (hW:Ext wr W)=>qmc (fun q=>(Value.slice A out.length c).ownBlock≠some q∧q<w2.heap.size) m _ W (qaa.good.bel hru2 hW) (fun x hx=>hsm x (hms x hx)) (by omega)
       have hob3:=fun q hq=>hown3.own_lt (b:=q) hq
       have HOW3:=Hd hown3
       have hsz3:=hbz.out.1.size
       have hlw:=hXw2.size
       clear hrow4 gc hru hst hmm hown3 hru2
       go_wp2_with fail
       refine hcp1.mono ?_
       rintro e w5 ⟨A5,c5,rfl,hr5,hx5⟩
       go_wp2_with fail
       refine (hcp2 _ hx5).mono ?_
       rintro e w6 ⟨A6,c6,rfl,hr6,hx6⟩
       have hx36:=hx5.trans' hx6
       have hz5:=hx5.size
       have hz6:=hx6.size
       have ho7:=HOW3.out.ext RTe.good (hx36.alloc (.cells #[.slice A5 p.tr.length c5,.slice A6 m.length c6] 40))
       obtain ⟨news,hrow,hF⟩:=ho7
       have hcc:=qew w6 #[.slice A5 p.tr.length c5,.slice A6 m.length c6] 40
       have hy:RTe (fun b=>True∧(Value.slice A3 (oj j).length c3).ownBlock≠some b) (w6.alloc (.cells #[.slice A5 p.tr.length c5,.slice A6 m.length c6] 40)) ⟨p.tr,m⟩ [.slice A5 p.tr.length c5,.slice A6 m.length c6]:=by
        refine ⟨_,_,rfl,qaa.good.bel (qaa.good.mono hr5 fun q _ hq=>⟨trivial,fun e=>?_⟩) (hx6.alloc _),qaa.good.bel (qaa.good.mono hr6 fun q _ hq=>⟨trivial,fun e=>?_⟩) ((Ext.refl _).alloc _)⟩
        ·have:=hob3 q e
         rcases hq with h | h
         ·have h1:q<wl.heap.size:=h.1;omega
         ·omega
        ·have h3:=hob3 q e
         rcases hq with h | h
         ·rcases hbz.out.2 with h4 | h4
          ·have:Z q:=by rw [h4];exact e
           rw [hZ] at this
           exact h.1.1 this
          ·have:=h4 q e;have:=h.1.2;omega
         ·omega
       have HF:=Hd hF
       have HY:=Hd hy
       clear hF hy hr5 hr6 hcp1 hcp2
       go_wp2_with (at_builtin;refine wpList_append_own_at _ rfl _ _ 34 rfl wl.heap.size 40 i3 _ 2 48 Tryz.underlying34 hi3 hz0 hz1 hz2 rfl (by decide) _ _ _ rfl hrow ⟨w6.heap.size,0,none⟩ 1 1 [.slice A5 p.tr.length c5,.slice A6 m.length c6] rfl rfl hcc (by simp [Value.oneCell']) (by unfold maxLen;omega) (by omega) (by simp;omega) ?_;intro v8 w8 hown8 hgrow8 hnil8 hat8;obtain ⟨g8,c8,rfl⟩:=ownsRow_succ hown8)
       have hp8:=Hd (qab.push RTe.good HF.out (Flat.single HY.out rfl) hown8 hgrow8 hat8)
       have hX8:Ext wl w8:=Below.grown ((hE3.trans' hx36).alloc _) hgrow8 (by simp;omega) fun q hq=>(hob3 q hq).1
       have hbz8:Bt Z w2 w8:=by
        have h1:Bt (fun q=>Z q∨w2.heap.size<=q) w2 w8:=((hbz.out.1.mono fun q _ h=>.inl h).trans (hx36.alloc _).bt).trans ((Bt.of_grown hgrow8).mono fun q _ h=>by
         rcases hbz.out.2 with h4 | h4
         ·left;rw [h4];exact h.symm
         ·exact .inr (h4 q h.symm))
        exact h1.mono fun q hq h=>h.resolve_right (by omega)
       have hlen8:Hid ((oj (j+1)).length=(oj j).length+1):=by show _=_;rw [HST.out,List.length_append];rfl
       have hown9:Hid (Z=(fun q=>(Value.slice (some ⟨g8,0,none⟩) (oj (j+1)).length c8).ownBlock=some q)∨∀ q,(Value.slice (some ⟨g8,0,none⟩) (oj (j+1)).length c8).ownBlock=some q->w2.heap.size<=q):=by
        have hob8:∀ n,(Value.slice (some ⟨g8,0,none⟩) n c8).ownBlock=some g8:=fun _=>rfl
        rw [hob8] at hat8 ⊢
        rcases hat8 with h | h
        ·rw [h]
         rcases hbz.out.2 with h4 | h4
         ·left;exact h4
         ·right;exact fun q e=>h4 q (h ▸ e)
        ·right
         intro q e
         rw [h] at e
         injection e with e
         simp at e
         omega
       clear hown8 hgrow8 hat8 hnil8 hrow hcc
       go_wp2_with fail
       go_roundw
       case rel=>exact ⟨j+1,some ⟨g8,0,none⟩,c8,by omega,by go_num,by rw [hlen8.out],by rw [hlen8.out,HST.out];exact hp8.out,⟨hbz8,hown9.out⟩,hX8⟩
       case measure=>simp [intOf];omega
      ·obtain rfl:j=ms.length:=by omega
       obtain ⟨o2,ho2e⟩:∃ o2,oj ms.length=o2:=⟨_,rfl⟩
       have hoo:o2=out++ms.map (Te.mk p.tr):=by rw [<- ho2e];exact ho2.out
       have hgs3:Hid (qdg s pls []=if 4000<o2.length then none else qdg s (pls.drop (i+1)) o2):=by show _=_;rw [hgs2.out,hoo]
       rw [ho2e] at hown3 ⊢
       have HOW3:=Hd hown3
       clear hown3 hbz ho2e hoo hlj
       by_cases hlim:4000<o2.length
       ·have HF:Hid (qb3 s d=none):=by show _=_;rw [HV.out,hgs3.out,if_pos hlim]
        go_wp2_with fail
        go_ret2
        rw [HF.out]
        exact ⟨none,0,rfl,qab.nil ..,hx1.trans' hE3⟩
       ·have hgn:Hid (qdg s (pls.drop (i+1)) o2=qdg s pls []):=by show _=_;rw [hgs3.out,if_neg hlim]
        go_wp2_with fail
        go_roundw
        case rel=>exact ⟨i+1,o2,A3,c3,by omega,by go_num,rfl,HOW3.out,⟨by omega,hgn.out⟩,hE3⟩
        case measure=>simp [intOf];omega
   ·obtain rfl:i=pls.length:=by omega
    have hfin:Hid (qb3 s d=some out):=by show _=_;rw [HV.out,<- hgo.out.2,List.drop_length,qdg]
    have HO:=Hd hown
    have hwl:=hx1.size
    clear hown
    go_wp2_with fail
    go_ret2
    rw [hfin.out]
    exact ⟨A,c,rfl,HO.out.base hwl,hx1.trans' hE⟩
open Classical in
noncomputable def qee (s:Sy) (d:Int):Int:=if qag s then (if 0<=d∧d<=8 then errO (qb3 s d.toNat) else 1) else 8
open Classical in
noncomputable def qbi (s:Sy) (d:Int):List Te:=if qag s∧(0<=d∧d<=8) then qbs (qb3 s d.toNat) else []
theorem qpd (S:Nat->Prop) (s:Sy) (hsm:qer s) (cs:List Value) (d:Int) (w:World) (hx:RSy S w s cs) :
  Calls Tryz.prog 20 #[.agg cs.toArray,.int .i64 d] w (qmi RTe 2 40 (qbi s d) (qee s d) w):=by
 obtain ⟨_,vl,ve,rfl,hvl,hve⟩:=id hx
 obtain ⟨Al,cl,rfl,_,_⟩:=hvl.val
 obtain ⟨Ae,ce,rfl,_,_⟩:=hve.val
 have HX:=Hd hx
 clear hx hvl hve
 by_cases hok:qag s
 case neg =>
  have hcon:=fun W (hW:Ext w W)=>qht S s _ W (RSy.good.bel HX.out hW) hok
  have HV:=Hd (And.intro (show qee s d=8 from if_neg hok) (show qbi s d=[] from if_neg fun h=>hok h.1))
  go_enter Tryz.func20,Tryz.ntmps20
  go_wp2_with fail
  refine (hcon _ bel).mono ?_
  rintro e w1 ⟨rfl,h1⟩
  go_wp2_with fail
  go_ret2
  rw [HV.out.1,HV.out.2]
  exact ⟨none,0,rfl,qab.nil ..,bel⟩
 have hcon:=fun W (hW:Ext w W)=>qge S s _ W (RSy.good.bel HX.out hW) hok
 by_cases hd0:0<=d
 case neg =>
  have HV:=Hd (And.intro (show qee s d=1 from by rw [qee,if_pos hok,if_neg fun h=>hd0 h.1]) (show qbi s d=[] from if_neg fun h=>hd0 h.2.1))
  go_enter Tryz.func20,Tryz.ntmps20
  go_wp2_with fail
  refine (hcon _ bel).mono ?_
  rintro e w1 ⟨g,rfl,h1,hg,hS⟩
  go_wp2_with fail
  go_ret2
  rw [HV.out.1,HV.out.2]
  exact ⟨none,0,rfl,qab.nil ..,bel⟩
 by_cases hd8:d<=8
 case neg =>
  have HV:=Hd (And.intro (show qee s d=1 from by rw [qee,if_pos hok,if_neg fun h=>hd8 h.2]) (show qbi s d=[] from if_neg fun h=>hd8 h.2.2))
  go_enter Tryz.func20,Tryz.ntmps20
  go_wp2_with fail
  refine (hcon _ bel).mono ?_
  rintro e w1 ⟨g,rfl,h1,hg,hS⟩
  go_wp2_with fail
  go_ret2
  rw [HV.out.1,HV.out.2]
  exact ⟨none,0,rfl,qab.nil ..,bel⟩
 have HV:=Hd (And.intro (show qee s d=errO (qb3 s d.toNat) from by rw [qee,if_pos hok,if_pos ⟨hd0,hd8⟩]) (show qbi s d=qbs (qb3 s d.toNat) from if_pos ⟨hok,hd0,hd8⟩))
 have hgc:=fun W g (hg:qav (fun _=>True) W g s)=>qrf (fun _=>True) s hok hsm g d.toNat W hg (by omega)
 rw [Int.toNat_of_nonneg hd0] at hgc
 go_enter Tryz.func20,Tryz.ntmps20
 go_wp2_with fail
 refine (hcon _ bel).mono ?_
 rintro e w1 ⟨g,rfl,h1,hg,hS⟩
 have hX1:Ext w w1:=bel
 go_wp2_with fail
 refine (hgc _ g (hS.mono fun _ _ _=>trivial)).mono ?_
 rintro e w2 ⟨A2,c2,rfl,ho2,h2⟩
 have HO:=Hd (ho2.base hX1.size)
 clear ho2
 go_wp2_with fail
 go_ret2
 rw [HV.out.1,HV.out.2]
 exact ⟨A2,c2,rfl,HO.out,hX1.trans' h2⟩
end
end Go.Proofs.YtegenalcheooeaaGreat
