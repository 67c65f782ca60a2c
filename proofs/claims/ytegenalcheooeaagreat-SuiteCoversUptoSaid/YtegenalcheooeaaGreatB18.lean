/- Of the proof of a law of the suites: Places, Gen. -/
import Derived.Test.YtegenalcheooeaaGreatB06
import Derived.Test.YtegenalcheooeaaGreatB17
set_option linter.unusedSectionVars false
set_option linter.unusedSimpArgs false
set_option linter.unusedVariables false
namespace Go.Proofs.YtegenalcheooeaaGreat
open Go.RowKit
attribute [local go_sem] cell?_exto
set_option maxHeartbeats 16000000
set_option maxRecDepth 100000
section
open Go.Shelf
structure Pl where
 tr:List Lb
 st:List Int
def RPl:Rdr Pl:=λS w x cs=>∃v u,cs=[v,u]/\qaa S w x.tr [v]/\RSl qad 1 S w x.st [u]
theorem RPl.good:Good RPl 2:={
 len:=by rintro S w x cs ⟨v,u,rfl,_⟩;rfl
 one:=by
  rintro S w t cs ⟨v,u,rfl,d,c⟩ y hy;simp at hy
  rcases hy with rfl | rfl
  .exact d.oneCell
  exact c.oneCell
 move:=by rintro S w w' x cs ⟨v,u,rfl,d,c⟩ m;exact⟨v,u,rfl,qaa.good.move d m,(RSl.good qad.good).move c m⟩
 mono:=by rintro S S' w x cs ⟨v,u,rfl,d,c⟩ hs;exact⟨v,u,rfl,qaa.good.mono d hs,(RSl.good qad.good).mono c hs⟩ }
def qhc (s:Sy) (p:Pl) (x:Lb):List Pl:=if qat x.g=true/\0<(qd0 s x p.st).length then [⟨p.tr++[x],qd0 s x p.st⟩] else []
def plRow (s:Sy) (p:Pl):List Pl:=s.ls.flatMap (qhc s p)
def qdx (s:Sy) (lev:List Pl):List Pl:=lev.flatMap (plRow s)
def qgz (s:Sy):Nat->List Pl->List Pl->Option (List Pl)
 | 0,out,_=>some out
 | d+1,out,lev=>if 4000<out.length+(qdx s lev).length then none else qgz s d (out++qdx s lev) (qdx s lev)
def qgx (s:Sy) (depth:Nat):Option (List Pl):=qgz s depth [⟨[],qa4 s [0]⟩] [⟨[],qa4 s [0]⟩]
def qei {α:Type} (R:Rdr α) (k:Nat) (S:Nat->Prop) (w:World) (xs:List α) (v:Value):Prop :=
 ∃A c,v = .slice A xs.length c/\xs.length<=c/\c<=9223372036854775807/\(xs=[]\/∃b off,A=some ⟨b,off,none⟩/\b<w.heap.size/\qc2 R k S w b off xs)
theorem qei.bel {α:Type} {R:Rdr α} {k:Nat} (G:Good R k) {S:Nat->Prop} {w w':World} {xs:List α} {v:Value} (h:qei R k S w xs v) (d:Ext w w'):qei R k S w' xs v:=by
 obtain⟨A,c,rfl,E,D,F⟩:=h;refine⟨A,c,rfl,E,D,F.imp id ?_⟩;rintro⟨b,m,rfl,u,hr⟩;exact⟨b,m,rfl,Nat.lt_of_lt_of_le u d.size,hr.imp (λx _ cs h=>G.bel h d) ((Ext.kp (S:=λ_=>True) d).block b u trivial)⟩
theorem qei.get {α:Type} {R:Rdr α} {k:Nat} {S:Nat->Prop} {w:World} {xs:List α} {A:Option Addr} {n c:Nat} (h:qei R k S w xs (.slice A n c)) (i:Nat) (hi:i<xs.length) :
  ∃b d cs,A=some ⟨b,d,none⟩/\b<w.heap.size/\cs.length=k/\R S w xs[i] cs/\qfm w b (d+i*k) cs:=by
 obtain⟨I,J,m,M,L,u⟩:=h;injection m with m
 rcases u with rfl | ⟨b,d,rfl,G,hr⟩
 .simp at hi
 obtain⟨cs,D,E,F⟩:=hr.get i hi;exact⟨b,d,cs,m,G,D,E,F⟩
theorem qab.slx {α:Type} {R:Rdr α} {k base:Nat} {e:TypeId} {T:Nat->Prop} {w:World} {xs:List α} {v:Value} (h:qab R k e base T w xs v):qei R k (λb=>T b/\v.ownBlock≠some b) w xs v:=by
 obtain⟨news,⟨J,m⟩,E⟩:=h
 rcases m with⟨rfl,m⟩ | ⟨g,d,c,rfl,L,D,F,G,hs,I⟩
 .have:xs=[]:=List.length_eq_zero_iff.1 m;subst this;exact⟨none,0,rfl,Nat.le_refl _,by decide,.inl rfl⟩
 refine⟨some ⟨g,0,none⟩,d,rfl,F,G,.inr ⟨g,0,rfl,(Array.getElem?_eq_some_iff.1 D).1,?_⟩⟩;refine Flat.row (cs:=news) E λi u hi=>?_
 have A:c[i]? = some u:=by
  rw[<- I,List.getElem?_take]at hi
  split at hi
  .simpa using hi
  cases hi
 rw[Nat.zero_add];exact(cell_of_row w g i c e (0,0) D).trans A
theorem qei.turn {α:Type} {R:Rdr α} {k:Nat} (G:Good R k) {S S' Z:Nat->Prop} {w w':World} {xs:List α} {v:Value} (h:qei R k S w xs v) (I:Bt Z w w') (L:∀b,Z b->v.ownBlock≠some b) (F:∀b d c n,v = .slice (some ⟨b,d,none⟩) n c->d=0)
  (hS:∀b,b<w.heap.size->S b->¬ Z b/\S' b):qei R k S' w' xs v:=by
 obtain⟨A,c,rfl,m,J,u⟩:=h;refine⟨A,c,rfl,m,J,u.imp id ?_⟩;rintro⟨b,d,rfl,E,hr⟩;obtain rfl:=F _ _ _ _ rfl;refine⟨b,0,rfl,Nat.lt_of_lt_of_le E I.size,hr.imp (λx _ cs M=>?_) (I.block b E λN=>L b N rfl)⟩;exact G.mono (S:=λb=>S b/\b<w.heap.size) (G.move (G.mono M λb m u=>⟨u,m⟩) (I.kp λb m u=>(hS b m u.1).1)) λb _ D=>(hS b D.2 D.1).2
theorem run_append_nothing {P:Program} (w:World) (t E e:TypeId) (i:TypeInfo) (z:Value) (u:P.underlying t=some (.slice e)) (hi:P.info? e=some i) (D:i.zero=some z) (hs:0<i.size) (A:Option Addr) (n c:Nat) (d:n<=c) (F:c<=9223372036854775807) :
  (Builtin.append_ #[t,t] E #[.slice A n c,.slice none 0 0]).run P w = .ok (.slice A n c) w:=by
 have m:¬ (9223372036854775807<(n:Int)):=by omega
 cases A <;> simp[Builtin.append_,run_underlying u,sizeOf,typeInfo,zeroValue,hi,D,Builtin.lenOf,d,m,Builtin.firstCells,storeCells]
theorem infoPla:(Tryz.prog.info? 204).map (λi=>(i.zero,i.size,i.bytes))=some (some (.agg #[.slice none 0 0,.slice none 0 0]),2,48):=by kernel_rfl
theorem qy6 {base:Nat} {S T:Nat->Prop} {w:World} {xs:List Int} {v:Value} (h:qab qad 1 3 base T w xs v) (hS:∀b,v.ownBlock=some b->S b):RSl qad 1 S w xs [v]:=by
 obtain⟨A,c,u,G,I,D⟩:=h.sl qad.good (by decide);refine⟨A,c,u,G,I,?_⟩;obtain⟨news,hr,_⟩:=h
 rcases D with D | ⟨b,L,rfl,J,_,d⟩
 .exact .inl D
 injection u with u
 subst u
 rcases hr.2 with⟨m,_⟩ | ⟨g,E,F,m,_⟩
 .simp at m
 simp only[Value.slice.injEq,Option.some.injEq,Addr.mk.injEq]at m;obtain⟨⟨rfl,rfl,_⟩,_⟩:=m;exact .inr ⟨b,0,rfl,J,hS b rfl,d.imp (λx _ cs h=>h) rfl⟩
theorem plApp (base:Nat) (T:Nat->Prop) (A w6 Wa:World) (xs:List Pl) (st:List Int) (m:List Lb) (x:Lb) (N c v6 vx:Value) (Lx b6 bs:Nat) (hn:qab RPl 2 204 base T A xs N) (Y:qab qad 1 3 bs (λ_=>False) A st c)
  (ho:qab RLb 2 61 b6 (λb=>T b/\b<A.heap.size/\N.ownBlock≠some b) w6 m v6) (al:Ext A w6) (V:Ext w6 Wa) (aF:A.heap.size<=b6) (ap:b6<=w6.heap.size) (aq:base<=A.heap.size) (an:∀b,A.heap.size<=b->T b) (ao:∀b,bs<=b->T b) (au:∀b,N.ownBlock=some b->c.ownBlock≠some b)
  (av:∀j u,[Value.int .i64 x.g,vx][j]? = some u->Wa.cell? ((⟨Lx,0,none⟩:Addr).add j)=some u) (hx:RLb (λb=>T b/\b<A.heap.size/\N.ownBlock≠some b) A x [.int .i64 x.g,vx]) (aG:m.length<=1000) (aH:xs.length<=1000000) :
  ∃M L J,((Builtin.append_ #[22,22] 22 #[v6,.slice (some ⟨Lx,0,none⟩) 1 1]).run Tryz.prog Wa = .ok (.slice (some ⟨M,0,none⟩) (m.length+1) L) J)/\Ext A J /\
   ∃O c8 w8,((Builtin.append_ #[200,200] 200 #[N,.slice (some ⟨J.heap.size,0,none⟩) 1 1]).run Tryz.prog (J.alloc (.cells #[.slice (some ⟨M,0,none⟩) (m.length+1) L,c] 204)) = .ok (.slice (some ⟨O,0,none⟩) (xs.length+1) c8) w8) /\
    qab RPl 2 204 base T w8 (xs++[⟨m++[x],st⟩]) (.slice (some ⟨O,0,none⟩) (xs.length+1) c8)/\Bt (λb=>N.ownBlock=some b) A w8/\(N.ownBlock=some O\/A.heap.size<=O):=by
 obtain⟨aD,p1,I⟩:=Option.map_eq_some_iff.1 qix;simp only[Prod.mk.injEq]at I;obtain⟨p2,p3,p4⟩:=I;obtain⟨aj,q1,I⟩:=Option.map_eq_some_iff.1 infoPla;simp only[Prod.mk.injEq]at I;obtain⟨q2,q3,q4⟩:=I;have ay:=λb d=>hn.own_lt (b:=b) d
 have aC:=λb d=>Y.own_lt (b:=b) d
 have U:=al.trans' V;have af:=ho.ext RLb.good V;have ag:=λb d=>af.own_lt (b:=b) d
 obtain⟨news,ai,hF⟩:=af;obtain⟨v7,J,aA,F,ad,_,ab⟩:=run_append_own_at (P:=Tryz.prog) Wa b6 22 22 61 aD _ 2 32 Tryz.underlying22 p1 p2 p3 p4 rfl (by decide) _ _ _ ai ⟨Lx,0,none⟩ 1 1 [.int .i64 x.g,vx] rfl av (RLb.good.one hx) (by unfold maxLen;omega) (by omega) (Nat.le_trans ap V.size);have hG:Flat RLb 2 (λb=>(T b/\b<A.heap.size/\N.ownBlock≠some b)/\v6.ownBlock≠some b) Wa [x] [.int .i64 x.g,vx]:=Flat.single (RLb.good.bel (RLb.good.mono hx λb _ d=>⟨d,λe=>by have:=(ag b e).1;omega⟩) U) rfl;have az:=qab.push RLb.good hF hG F ad ab;have aa:Ext A J:=Below.grown U ad U.size λb d=>by have:=(ag b d).1;omega
 obtain⟨M,L,rfl⟩:=ownsRow_succ F;refine⟨M,L,J,aA,aa,?_⟩;have D:=aa.alloc (.cells #[.slice (some ⟨M,0,none⟩) (m.length+1) L,c] 204);have ax:=hn.ext RPl.good D;obtain⟨aE,X,am⟩:=ax;have ac:=qe7 J #[.slice (some ⟨M,0,none⟩) (m.length+1) L,c] 204;have ak:c.oneCell'=true:=(Y.sl qad.good (by decide)).oneCell
 obtain⟨v8,w8,aB,G,ae,_,E⟩:=run_append_own_at (P:=Tryz.prog) (J.alloc (.cells #[.slice (some ⟨M,0,none⟩) (m.length+1) L,c] 204)) base 200 200 204 aj _ 2 48 Tryz.underlying200 q1 q2 q3 q4 rfl (by decide) _ _ _ X ⟨J.heap.size,0,none⟩ 1 1 [.slice (some ⟨M,0,none⟩) (m.length+1) L,c] rfl ac (λu hu=>by
  simp only[List.mem_cons,List.not_mem_nil,or_false]at hu
  rcases hu with rfl | rfl
  .rfl
  exact ak) (by unfold maxLen;omega) (by omega) (by have:=D.size;omega)
 obtain⟨O,c8,rfl⟩:=ownsRow_succ G;have aw:(m++[x]).length=m.length+1:=by simp
 have hy:RPl (λb=>T b/\N.ownBlock≠some b) (J.alloc (.cells #[.slice (some ⟨M,0,none⟩) (m.length+1) L,c] 204)) ⟨m++[x],st⟩ [.slice (some ⟨M,0,none⟩) (m.length+1) L,c]:=by
  refine⟨_,_,rfl,qaa.good.bel (qaa.good.mono (az.sl RLb.good (by decide)) λb _ d=>?_) ((Ext.refl _).alloc _),(RSl.good qad.good).bel (qy6 Y λb d=>⟨ao b (aC b d).1,λe=>au b e d⟩) D⟩
  rcases d with h | h
  .exact ⟨h.1,h.2.2⟩
  exact⟨an b (by omega),λe=>by have:=(ay b e).2;omega⟩
 refine⟨O,c8,w8,aB,?_,D.bt.trans ((Bt.of_grown ae).mono λb _ h=>h.symm),?_⟩
 .have:=qab.push RPl.good am (Flat.single hy rfl) G ae E;exact this
 have ah:(Value.slice (some ⟨O,0,none⟩) (xs.length+1) c8).ownBlock=some O:=rfl;rw[ah]at E
 rcases E with h | h
 .exact .inl h.symm
 right
 have:=D.size;injection h with h
 omega
def PlPost (r:Option (List Pl)) (w:World) (e:Ending) (w':World):Prop :=
 ∃A c,e = .returned (.tuple #[.slice A (qb7 r).length c,.int .i64 (errO r)])/\qei RPl 2 (λ_=>True) w' (qb7 r) (.slice A (qb7 r).length c)/\Ext w w'
theorem places_c (S:Nat->Prop) (s:Sy) (aX:qah s) (g:Nat) (d:Nat) (w:World) (hS:qaz S w g s) (hd:d<=8) :
  Calls Tryz.prog 160 #[.pointer (some ⟨g,0,none⟩),.int .i64 (d:Int)] w (PlPost (qgx s d) w):=by
 have HS:Hid (qaz (λb=>b<w.heap.size) w g s):=hS.mono λb hb _=>hb
 clear hS;obtain⟨i3,bH,bR⟩:=Option.map_eq_some_iff.1 infoPla;simp only[Prod.mk.injEq]at bR;obtain⟨bQ,ck,cm⟩:=bR;have bD:=(qnx (λ_=>True) s aX g [0] _ _ ((HS.out.mono λ_ _ _=>trivial).bel ((Ext.refl w).alloc _)) (qns w 0 ⟨by decide,by decide⟩ trivial) (by decide)).mono λe w' h=>qhf.at h (b':=w.heap.size) (by simp)
 go_enter Tryz.func160,Tryz.ntmps160
 go_wp2_with fail
 refine bD.mono ?_;rintro e w1 ⟨A1,c1,rfl,bJ,cj⟩;have bx:Ext w w1:=Ext.trans' ((Ext.refl w).alloc _) cj
 have a9:RPl (λb=>b<w1.heap.size) w1 ⟨[],qa4 s [0]⟩ [.slice none 0 0,.slice A1 (qa4 s [0]).length c1] :=
  ⟨_,_,rfl,⟨none,0,rfl,Nat.le_refl _,by decide,.inl rfl⟩,(RSl.good qad.good).mono (bJ.sl qad.good (by decide)) λb hb _=>hb⟩
 have a8:qab RPl 2 204 w.heap.size (λb=>b<w1.heap.size) (w1.alloc (.cells #[.slice none 0 0,.slice A1 (qa4 s [0]).length c1] 204)) [⟨[],qa4 s [0]⟩] (.slice (some ⟨w1.heap.size,0,none⟩) 1 1):=by
  have h1:=World.ownsRow_lit (base:=w.heap.size) (e:=204) (size:=2) w1 #[.slice none 0 0,.slice A1 (qa4 s [0]).length c1] 1 bx.size (by decide) rfl;refine⟨_,h1,Flat.single (RPl.good.bel (RPl.good.mono a9 λb hb _=>⟨hb,?_⟩) ((Ext.refl _).alloc _)) rfl⟩;simp[Value.ownBlock];omega
 have bN:(qa4 s [0]).length<=1000000:=by have h:=qkx s [0];have:=qhe s [0];have:=aX.2.2.2.1;simp only[List.length_cons,List.length_nil]at h;omega
 have a4:=Hd a8;have cT:Hid (qgx s d=qgz s d [⟨[],qa4 s [0]⟩] [⟨[],qa4 s [0]⟩]):=rfl;have b4:=bx.alloc (.cells #[.slice none 0 0,.slice A1 (qa4 s [0]).length c1] 204);clear a9 a8 bJ bD
 go_wp2_with fail
 go_loopw [6,7,21] (λvo vl vi wr=>∃(k:Nat) (E m:List Pl) (A:Option Addr) (c:Nat) (A2:Option Addr) (c2:Nat),k<=d/\vi = .int .i64 k/\vo = .slice A E.length c/\vl = .slice A2 m.length c2/\qab RPl 2 204 w.heap.size (λ_=>True) wr E (.slice A E.length c)/\qei RPl 2 (λb=>(Value.slice A E.length c).ownBlock≠some b) wr m (.slice A2 m.length c2) /\
  Hid (E.length<=4000/\m.length<=4000/\(∀p∈m,p.tr.length<=k/\p.st.length<=1000000)/\qgz s (d-k) E m=qgx s d)/\Ext w wr) (λ_ _ vi _=>d-(intOf vi).toNat)
 case atStart =>
  refine⟨0,[⟨[],qa4 s [0]⟩],[⟨[],qa4 s [0]⟩],some ⟨w1.heap.size,0,none⟩,1,some ⟨w1.heap.size,0,none⟩,1,Nat.zero_le _,rfl,rfl,rfl,a4.out.mono RPl.good λ_ _ _=>trivial,?_,⟨by simp,by simp,?_,rfl⟩,b4⟩
  .obtain ⟨A,c,h1,h2,h3,h4⟩:=a4.out.slx;refine⟨A,c,h1,h2,h3,h4.imp id ?_⟩;rintro⟨b,aU,h5,h6,h7⟩;exact⟨b,aU,h5,h6,h7.imp (λy _ cs hy=>RPl.good.mono hy λq _ U=>U.2) rfl⟩
  intro p hp;rw[List.mem_singleton.1 hp];exact⟨Nat.le_refl _,bN⟩
 obtain⟨k,E,m,A,c,A2,c2,hk,rfl,rfl,rfl,al,ak,G,hE⟩:=hrel
 by_cases cR:k<d
 .obtain ⟨wb,rfl⟩:∃wb,wb=wr:=⟨_,rfl⟩
  have aO:=λq U=>al.own_lt (b:=q) U
  obtain⟨T,hT⟩:∃T:Nat->Prop,T=λb=>(Value.slice A E.length c).ownBlock≠some b:=⟨_,rfl⟩
  rw[<- hT]at ak;have a5:=Hd al;have bv:=Hd ak;have cU:=hE.size;obtain⟨Al,cl,b8,cv,cw⟩:∃A c,Value.slice A2 m.length c2 = .slice A m.length c/\m.length<=c/\c<=9223372036854775807:=by obtain⟨A,c,h1,h2,h3,_⟩:=ak;exact⟨A,c,h1,h2,h3⟩
  injection b8 with hl1 _ hl2
  subst hl1 hl2;obtain⟨vL,uE,mM,fM,s1,s2,s3,s4,s5,s6,s7,s8⟩:=HS.out.ex;obtain⟨AL,cL,rfl,cO,cq⟩:=s2.val;have gL:wb.cell? ⟨g,1,none⟩=some (.slice AL s.ls.length cL):=Ext.keep hE (cell_of_row w _ 1 _ _ _ s1);have cQ:g<w.heap.size:=(Array.getElem?_eq_some_iff.1 s1).1;have bU:=Hd (qaa.good.bel s2 hE);have b6:=G.out.1;have cP:=G.out.2.1;clear al ak s1 s2 s3 s4 s5 s6 s7 s8
  go_wp2_with fail
  go_loopw [8,25] (λvn vi wr=>∃(i:Nat) (A':Option Addr) (c':Nat),i<=m.length/\vi = .int .i64 i/\vn = .slice A' (qdx s (m.take i)).length c'/\qab RPl 2 204 wb.heap.size T wr (qdx s (m.take i)) (.slice A' (qdx s (m.take i)).length c')/\Hid (E.length+(qdx s (m.take i)).length<=4000)/\Ext wb wr) (λ_ vi _=>m.length-(intOf vi).toNat)
  case atStart=>exact⟨0,none,0,Nat.zero_le _,rfl,rfl,qab.nil ..,(by show _<=_;simp[qdx];omega),Ext.refl _⟩
  obtain⟨i,A',c',hi,rfl,rfl,I,am,aj⟩:=hrel
  by_cases aL:i<m.length
  .obtain ⟨b,aU,cs,rfl,hb,hl,hr,J⟩:=bv.out.get i aL;obtain⟨tp,sp,rfl,a2,aZ⟩:=id hr;have a0:=Ext.keep aj (J.get 0 _);have a1:=Ext.keep aj (J.get 1 _);simp only[Nat.add_zero]at a0;have bp:=G.out.2.2.1 _ (List.getElem_mem aL);obtain⟨p,hp⟩:=nm (m[i]);obtain⟨D,aQ⟩:∃D:Nat->List Pl,D=λj=>qdx s (m.take i)++(s.ls.take j).flatMap (qhc s p):=⟨_,rfl⟩
   have aY:Hid (D 0=qdx s (m.take i)):=by show _=_;rw[aQ];simp
   have cc:Hid (∀j,(h:j<s.ls.length)->D (j+1)=D j++qhc s p s.ls[j]):=by
    intro j h;rw[aQ];simp only;rw[List.take_succ_eq_append_getElem h,List.flatMap_append,List.append_assoc]
    simp
   have br:Hid (D s.ls.length=qdx s (m.take (i+1))):=by
    show _=_;rw[List.take_succ_eq_append_getElem aL,hp,aQ];simp[qdx,plRow]
   have cd:Hid (∀j,j<=s.ls.length->(D j).length<=(qdx s m).length):=by
    intro j hj
    have h1:qdx s m=D s.ls.length++qdx s (m.drop (i+1)):=by
     rw[br.out,qdx,qdx,qdx,<- List.flatMap_append,List.take_append_drop]
    have h2:D s.ls.length=D j++(s.ls.drop j).flatMap (qhc s p):=by
     rw[aQ];simp only[List.take_length];rw[List.append_assoc,<- List.flatMap_append,List.take_append_drop]
    rw[h1,h2];simp only[List.length_append];omega
   rw[hp]at a2 aZ bp;have bY:=Hd a2;have bX:=Hd aZ;obtain⟨At,ct,rfl,_,_⟩:=a2.val;obtain⟨As,cs,rfl,_,_⟩:=aZ.val;have ah:=Hd I;have aW:=λq U=>I.own_lt (b:=q) U
   obtain⟨wc,rfl⟩:∃wc,wc=wr:=⟨_,rfl⟩
   have cr:g<wc.heap.size:=by have:=aj.size;omega
   have cI:=Ext.keep aj gL;have b2:=aj.alloc (.cells #[.slice At p.tr.length ct,.slice As p.st.length cs] 204);have bi:=World.alloc_heap_new wc (.cells #[.slice At p.tr.length ct,.slice As p.st.length cs] 204);have bA:=cell_of_row _ _ 0 _ _ _ bi;have bB:=cell_of_row _ _ 1 _ _ _ bi;clear J hl hr aQ I hp a2 aZ bi
   go_wp2_with fail
   go_loopw [8,35] (λvn vi wr=>∃(j:Nat) (A4:Option Addr) (c4:Nat),j<=s.ls.length/\vi = .int .i64 j/\vn = .slice A4 (D j).length c4/\qab RPl 2 204 wb.heap.size T wr (D j) (.slice A4 (D j).length c4)/\(Value.slice A4 (D j).length c4).ownBlock≠some wc.heap.size/\wr.cell? ⟨wc.heap.size,0,none⟩=some (.slice At p.tr.length ct)/\wr.cell? ⟨wc.heap.size,1,none⟩=some (.slice As p.st.length cs)/\Hid (E.length+(D j).length<=4000)/\Ext wb wr) (λ_ vi _=>s.ls.length-(intOf vi).toNat)
   case atStart=>exact⟨0,A',c',Nat.zero_le _,rfl,by rw[aY.out],by rw[aY.out];exact ah.out.ext RPl.good ((Ext.refl _).alloc _),λe=>by rw[aY.out]at e;have:=(aW _ e).2;omega,bA,bB,by rw[aY.out];exact am.out,b2⟩
   obtain⟨j,A4,c4,hj,rfl,rfl,I,af,c0,c1,O,ae⟩:=hrel
   by_cases aM:j<s.ls.length
   .obtain ⟨b3,cE,cH,rfl,cK,b0,b7,hr,J⟩:=bU.out.get j aM;obtain⟨cV,vx,rfl,bO⟩:=id hr;have x0:=Ext.keep ae (J.get 0 _);have x1:=Ext.keep ae (J.get 1 _);simp only[Nat.add_zero]at x0;obtain⟨Ax,cx,rfl,_,_⟩:=bO.val;have ba:=Hd (cc.out j aM);have ch:=Hd (cd.out (j+1) aM);obtain⟨x,bu⟩:=nm (s.ls[j]);rw[bu]at hr x0 x1;have aB:Hid (D (j+1)=D j++qhc s p x):=by show _=_;rw[ba.out,bu]
    have bw:=Hd hr;have ah:=Hd I;have ab:=λq U=>I.own_lt (b:=q) U
    have cM:=World.block_lt_of_cell? wr _ c0;have cu:g<wr.heap.size:=by have:=ae.size;omega
    have cJ:=Ext.keep ae gL;have an:=qj0 x.g (.slice Ax x.v.length cx);clear J b7 b0 hr bO ba bu I
    by_cases aw:qat x.g=true
    case neg =>
     have ac:Hid (D (j+1)=D j):=by show _=_;rw[aB.out,qhc,if_neg λh=>aw h.1,List.append_nil]
     rw[eq_false_of_ne_true aw]at an;clear aw
     go_wp2_with fail
     refine(an _).mono ?_;rintro e w5 ⟨rfl,ad⟩;have F:=Ext.trans' ((Ext.refl wr).alloc _) ad;have aC:=Ext.keep F c0;have aD:=Ext.keep F c1
     go_wp2_with fail
     go_roundw
     case rel=>exact⟨j+1,A4,c4,by omega,by go_num,by rw[ac.out],by rw[ac.out];exact ah.out.ext RPl.good F,by rw[ac.out];exact af,aC,aD,by rw[ac.out];exact O.out,ae.trans' F⟩
     simp[intOf];omega
    rw[aw]at an;have aH:=λW (hW:Ext wb W)=>qsg (λ_=>True) s aX g p.st x (.slice As p.st.length cs) (.slice Ax x.v.length cx) W ((HS.out.mono λ_ _ _=>trivial).bel (hE.trans' hW)) ((RSl.good qad.good).mono ((RSl.good qad.good).bel bX.out hW) λ_ _ _=>trivial) (RLb.good.mono (RLb.good.bel bw.out hW) λ_ _ _=>trivial) (by have:=bp.2;omega)
    obtain⟨st,ac⟩:=nm (qd0 s x p.st);rw[ac]at aH
    by_cases hz:st.length=0
    .have X:Hid (D (j+1)=D j):=by show _=_;rw[aB.out,qhc,if_neg (by rw[ac];omega),List.append_nil]
     have cn:=decide_eq_false (show ¬ (0:Int)<(st.length:Int) by omega);have cS:E.length+(D j).length<=4000:=O.out;clear aw ac
     go_wp2_with fail
     refine(an _).mono ?_;rintro e w5 ⟨rfl,ad⟩;have F:=Ext.trans' ((Ext.refl wr).alloc _) ad;have ap:=World.alloc_heap_new wr (.cells #[.int .i64 x.g,.slice Ax x.v.length cx] 61);have d0:=Ext.keep ad (cell_of_row _ _ 0 _ _ _ ap);have d1:=Ext.keep ad (cell_of_row _ _ 1 _ _ _ ap);have aC:=Ext.keep F c0;have aD:=Ext.keep F c1;have a3:Ext wb w5:=ae.trans' F;have bC:wr.heap.size+1<=w5.heap.size:=by have:=ad.size;simp at this;omega
     clear ap
     go_wp2_with fail
     refine(aH _ a3).mono ?_;rintro e L h6;obtain⟨A6,c6,rfl,au,ag⟩:=h6.at (b':=w5.heap.size) (Nat.le_refl _);have e0:=Ext.keep ag aC;have e1:=Ext.keep ag aD;clear h6 au
     go_wp2_with fail
     go_roundw
     case rel =>
      have ao:=F.trans' ag;exact⟨j+1,A4,c4,by omega,by go_num,by rw[X.out],by rw[X.out];exact ah.out.ext RPl.good ao,by rw[X.out];exact af,e0,e1,by rw[X.out];exact O.out,ae.trans' ao⟩
     simp[intOf];omega
    have X:Hid (D (j+1)=D j++[⟨p.tr++[x],st⟩]):=by show _=_;rw[aB.out,qhc,if_pos ⟨aw,by rw[ac];omega⟩,ac]
    have cn:=decide_eq_true (show(0:Int)<(st.length:Int) by omega);clear aw ac
    go_wp2_with fail
    refine(an _).mono ?_;rintro e w5 ⟨rfl,ad⟩;have F:=Ext.trans' ((Ext.refl wr).alloc _) ad;have ap:=World.alloc_heap_new wr (.cells #[.int .i64 x.g,.slice Ax x.v.length cx] 61);have d0:=Ext.keep ad (cell_of_row _ _ 0 _ _ _ ap);have d1:=Ext.keep ad (cell_of_row _ _ 1 _ _ _ ap);have aC:=Ext.keep F c0;have aD:=Ext.keep F c1;have a3:Ext wb w5:=ae.trans' F;have bC:wr.heap.size+1<=w5.heap.size:=by have:=ad.size;simp at this;omega
    clear ap
    go_wp2_with fail
    refine(aH _ a3).mono ?_;rintro e L h6;obtain⟨A6,c6,rfl,au,ag⟩:=h6.at (b':=w5.heap.size) (Nat.le_refl _);have e0:=Ext.keep ag aC;have e1:=Ext.keep ag aD;have f0:=Ext.keep ag d0;have f1:=Ext.keep ag d1;have ao:=F.trans' ag;have bk:=ah.out.ext RPl.good ao;have V:Ext wb L:=ae.trans' ao;have cz:=ag.size;obtain⟨S6,aE⟩:∃S6:Nat->Prop,S6=λb=>T b/\b<L.heap.size/\(Value.slice A4 (D j).length c4).ownBlock≠some b:=⟨_,rfl⟩
    have be:∀b,L.heap.size<=b->T b:=λb hb=>by rw[hT];intro e;have:=(aO b e).2;have:=V.size;omega
    have bf:∀b,w5.heap.size<=b->T b:=λb hb=>by rw[hT];intro e;have:=(aO b e).2;have:=a3.size;omega
    have bh:∀b,(Value.slice A4 (D j).length c4).ownBlock=some b->(Value.slice A6 st.length c6).ownBlock≠some b:=λb h1 h2=>by have:=(ab b h1).2;have:=(au.own_lt h2).1;omega
    have aT:RLb (λb=>T b/\b<L.heap.size/\(Value.slice A4 (D j).length c4).ownBlock≠some b) L x [.int .i64 x.g,.slice Ax x.v.length cx]:=RLb.good.bel (RLb.good.mono bw.out λq U h=>⟨by rw[hT];intro e;have h':q<w.heap.size:=h;have:=(aO q e).1;omega,by have:=V.size;omega,λe=>by have:=(ab q e).1;omega⟩) V
    have bb:qaa S6 L p.tr [.slice At p.tr.length ct]:=by
     rw[aE];exact qaa.good.bel (qaa.good.mono bY.out λq U h=>⟨h,by have:=V.size;omega,λe=>by have:=(ab q e).1;omega⟩) V
    have bL:p.tr.length<=1000:=by have:=bp.1;omega
    have bM:(D j).length<=1000000:=by have:=O.out;omega
    have bz:wb.heap.size<=L.heap.size:=V.size
    have bc:∀(M:World) (A7:Option Addr) (c7:Nat),qab RLb 2 61 (World.heap L.drew).size S6 M p.tr (.slice A7 p.tr.length c7)->Ext L.drew M->(M.cell? ⟨wc.heap.size,0,none⟩=some (.slice At p.tr.length ct)/\M.cell? ⟨wr.heap.size,0,none⟩=some (.int .i64 x.g)/\M.cell? ⟨wr.heap.size,1,none⟩=some (.slice Ax x.v.length cx)) /\
      ∃g8 c8 w8,(Builtin.append_ #[22,22] 22 #[.slice A7 p.tr.length c7,.slice (some ⟨M.heap.size,0,none⟩) 1 1]).run Tryz.prog (M.alloc (.cells #[.int .i64 x.g,.slice Ax x.v.length cx] 61)) = .ok (.slice (some ⟨g8,0,none⟩) (p.tr.length+1) c8) w8/\(w8.cell? ⟨wc.heap.size,0,none⟩=some (.slice At p.tr.length ct)/\w8.cell? ⟨wr.heap.size,0,none⟩=some (.int .i64 x.g)/\w8.cell? ⟨wr.heap.size,1,none⟩=some (.slice Ax x.v.length cx)) /\
      ∃g9 c9 Y,(Builtin.append_ #[200,200] 200 #[.slice A4 (D j).length c4,.slice (some ⟨w8.heap.size,0,none⟩) 1 1]).run Tryz.prog (w8.alloc (.cells #[.slice (some ⟨g8,0,none⟩) (p.tr.length+1) c8,.slice A6 st.length c6] 204)) = .ok (.slice (some ⟨g9,0,none⟩) ((D j).length+1) c9) Y/\(Y.cell? ⟨wc.heap.size,0,none⟩=some (.slice At p.tr.length ct)/\Y.cell? ⟨wr.heap.size,0,none⟩=some (.int .i64 x.g)/\Y.cell? ⟨wr.heap.size,1,none⟩=some (.slice Ax x.v.length cx))/\(qab RPl 2 204 wb.heap.size T Y (D (j+1)) (.slice (some ⟨g9,0,none⟩) (D (j+1)).length c9)/\(Value.slice (some ⟨g9,0,none⟩) (D (j+1)).length c9).ownBlock≠some wc.heap.size/\Y.cell? ⟨wc.heap.size,0,none⟩=some (.slice At p.tr.length ct)/\Y.cell? ⟨wc.heap.size,1,none⟩=some (.slice As p.st.length cs)/\Ext wb Y):=λM A7 c7 ho hx=>by
     have bs:L.heap.size<=(World.heap L.drew).size:=Nat.le_refl _;have ai:Ext L M:=Ext.trans' (Ext.refl L).drew hx
     obtain⟨g8,c8,w8,az,ax,g9,c9,Y,aA,bn,N,bg⟩:=plApp wb.heap.size T L M (M.alloc (.cells #[.int .i64 x.g,.slice Ax x.v.length cx] 61)) (D j) st p.tr x (.slice A4 (D j).length c4) (.slice A6 st.length c6) (.slice A7 p.tr.length c7) (.slice Ax x.v.length cx) (M.heap.size) _ w5.heap.size bk au
      (by rw[aE]at ho;exact ho) ai ((Ext.refl _).alloc _) bs hx.size bz be bf bh
      (qe7 M #[.int .i64 x.g,.slice Ax x.v.length cx] 61) aT bL bM
     have aG:Ext wb Y:=Bt.new V N λb _ h=>(ab b h).1
     have aS:¬ (Value.slice A4 (D j).length c4).ownBlock=some wr.heap.size:=λh=>by have:=(ab _ h).2;omega
     refine⟨⟨Ext.keep ai e0,Ext.keep ai f0,Ext.keep ai f1⟩,g8,c8,w8,az,⟨Ext.keep ax e0,Ext.keep ax f0,Ext.keep ax f1⟩,g9,c9,Y,aA,⟨N.cell e0 af,N.cell f0 aS,N.cell f1 aS⟩,?_⟩;have aI:(D (j+1)).length=(D j).length+1:=by rw[X.out,List.length_append];rfl
     rw[aI,X.out];refine⟨bn,λe=>?_,N.cell e0 af,N.cell e1 af,aG⟩;have hg:g9=wc.heap.size:=by injection e
     rcases bg with h | h
     .rw [hg]at h;exact af h
     omega
    have bd:∀(M:World) (A7:Option Addr) (c7:Nat),qab RLb 2 61 (World.heap (L.alloc (.cells #[.int .i64 x.g,.slice Ax x.v.length cx] 61)).drew).size S6 M p.tr (.slice A7 p.tr.length c7)->Ext (L.alloc (.cells #[.int .i64 x.g,.slice Ax x.v.length cx] 61)).drew M->(M.cell? ⟨wc.heap.size,0,none⟩=some (.slice At p.tr.length ct)/\M.cell? ⟨wr.heap.size,0,none⟩=some (.int .i64 x.g)/\M.cell? ⟨wr.heap.size,1,none⟩=some (.slice Ax x.v.length cx)) /\
      ∃g8 c8 w8,(Builtin.append_ #[22,22] 22 #[.slice A7 p.tr.length c7,.slice (some ⟨L.heap.size,0,none⟩) 1 1]).run Tryz.prog M = .ok (.slice (some ⟨g8,0,none⟩) (p.tr.length+1) c8) w8/\(w8.cell? ⟨wc.heap.size,0,none⟩=some (.slice At p.tr.length ct)/\w8.cell? ⟨wr.heap.size,0,none⟩=some (.int .i64 x.g)/\w8.cell? ⟨wr.heap.size,1,none⟩=some (.slice Ax x.v.length cx)) /\
      ∃g9 c9 Y,(Builtin.append_ #[200,200] 200 #[.slice A4 (D j).length c4,.slice (some ⟨w8.heap.size,0,none⟩) 1 1]).run Tryz.prog (w8.alloc (.cells #[.slice (some ⟨g8,0,none⟩) (p.tr.length+1) c8,.slice A6 st.length c6] 204)) = .ok (.slice (some ⟨g9,0,none⟩) ((D j).length+1) c9) Y/\(Y.cell? ⟨wc.heap.size,0,none⟩=some (.slice At p.tr.length ct)/\Y.cell? ⟨wr.heap.size,0,none⟩=some (.int .i64 x.g)/\Y.cell? ⟨wr.heap.size,1,none⟩=some (.slice Ax x.v.length cx))/\(qab RPl 2 204 wb.heap.size T Y (D (j+1)) (.slice (some ⟨g9,0,none⟩) (D (j+1)).length c9)/\(Value.slice (some ⟨g9,0,none⟩) (D (j+1)).length c9).ownBlock≠some wc.heap.size/\Y.cell? ⟨wc.heap.size,0,none⟩=some (.slice At p.tr.length ct)/\Y.cell? ⟨wc.heap.size,1,none⟩=some (.slice As p.st.length cs)/\Ext wb Y):=λM A7 c7 ho hx=>by
     have bs:L.heap.size<=(World.heap (L.alloc (.cells #[.int .i64 x.g,.slice Ax x.v.length cx] 61)).drew).size:=by show _<=(World.heap (L.alloc _)).size;simp
     have ai:Ext L M:=Ext.trans' ((Ext.refl L).alloc (.cells #[.int .i64 x.g,.slice Ax x.v.length cx] 61)).drew hx
     obtain⟨g8,c8,w8,az,ax,g9,c9,Y,aA,bn,N,bg⟩:=plApp wb.heap.size T L M M (D j) st p.tr x (.slice A4 (D j).length c4) (.slice A6 st.length c6) (.slice A7 p.tr.length c7) (.slice Ax x.v.length cx) (L.heap.size) _ w5.heap.size bk au
      (by rw[aE]at ho;exact ho) ai (Ext.refl _) bs hx.size bz be bf bh
      (λj u hj=>by rw[Addr.add_lit,Nat.zero_add];exact Ext.keep hx ((cell_of_row _ _ j _ _ _ (World.alloc_heap_new L (.cells #[.int .i64 x.g,.slice Ax x.v.length cx] 61))).trans (by simpa using hj))) aT bL bM
     have aG:Ext wb Y:=Bt.new V N λb _ h=>(ab b h).1
     have aS:¬ (Value.slice A4 (D j).length c4).ownBlock=some wr.heap.size:=λh=>by have:=(ab _ h).2;omega
     refine⟨⟨Ext.keep ai e0,Ext.keep ai f0,Ext.keep ai f1⟩,g8,c8,w8,az,⟨Ext.keep ax e0,Ext.keep ax f0,Ext.keep ax f1⟩,g9,c9,Y,aA,⟨N.cell e0 af,N.cell f0 aS,N.cell f1 aS⟩,?_⟩;have aI:(D (j+1)).length=(D j).length+1:=by rw[X.out,List.length_append];rfl
     rw[aI,X.out];refine⟨bn,λe=>?_,N.cell e0 af,N.cell e1 af,aG⟩;have hg:g9=wc.heap.size:=by injection e
     rcases bg with h | h
     .rw [hg]at h;exact af h
     omega
    have HA:=Hd bc;have HB:=Hd bd;have b5:=λW (hW:Ext L W)=>qpe S6 p.tr (.slice At p.tr.length ct) W (qaa.good.bel bb hW) (by omega)
    have cG:=Hd aE;have cF:=Hd au;have cB:(D j).length+1<=(qdx s m).length:=by have:=ch.out;rw[X.out,List.length_append]at this;exact this
    clear bc bd aE au bk aT bb be bf bh h6
    go_wp2_with fail
    go_region_held3 (λW=>W.cell? ⟨wc.heap.size,0,none⟩=some (.slice At p.tr.length ct)/\W.cell? ⟨wr.heap.size,0,none⟩=some (.int .i64 x.g)/\W.cell? ⟨wr.heap.size,1,none⟩=some (.slice Ax x.v.length cx))
     (first | (refine⟨?_,?_,?_⟩ <;> go_simp <;> done) | (have U:=k9;exact U) | (have U:=k8;exact U) | (have U:=k7;exact U) | (have U:=k7;exact Ext.k3 ((Ext.refl _).alloc _) U) | (have U:=k8;exact Ext.k3 ((Ext.refl _).alloc _) U) | exact Ext.k3 ((Ext.refl _).alloc _) (by assumption))
     (first
     | (go_at_call 39;refine(b5 _ bel).mono ?_;rintro e M ⟨v7,rfl,bm,bP⟩;obtain⟨A7,c7,rfl,cN,cp⟩:=(bm.sl RLb.good (by decide)).val;first | (have bq:Ext L.drew M:=bP;obtain⟨k7,g8,c8,w8,az,k8,g9,c9,Y,aA,k9,a6⟩:=HA.out M A7 c7 bm bq) | (have bq:Ext (L.alloc (.cells #[.int .i64 x.g,.slice Ax x.v.length cx] 61)).drew M:=bP;obtain⟨k7,g8,c8,w8,az,k8,g9,c9,Y,aA,k9,a6⟩:=HB.out M A7 c7 bm bq))
     | (refine qf8 rfl _ _ _ rfl _ _ _ rfl rfl az ?_)
     | (refine qf8 rfl _ _ _ rfl _ _ _ rfl rfl aA ?_))
    all_goals
     obtain⟨q1,q2,q3,q4,q5⟩:=a6;have aq:(D (j+1)).length=(D j).length+1:=by rw[X.out,List.length_append];rfl
     by_cases cy:4000<E.length+(D j).length+1
     .have HF:Hid (qgx s d=none):=by
       show _=_;rw[<- G.out.2.2.2,show d-k=(d-k-1)+1 from by omega,qgz,if_pos (by omega)]
      clear aq
      go_wp2_with fail
      go_ret2;rw[HF.out];exact⟨none,0,rfl,⟨none,0,rfl,Nat.le_refl _,by decide,.inl rfl⟩,hE.trans' q5⟩
     have aJ:=Hd aq;clear aq
     go_wp2_with fail
     go_roundw
     case rel=>exact⟨j+1,some ⟨g9,0,none⟩,c9,by omega,by go_num,by rw[aJ.out],q1,q2,q3,q4,(by show _<=_;rw[aJ.out];omega),q5⟩
     simp[intOf];omega
   obtain rfl:j=s.ls.length:=by omega
   rw[br.out]at I O;have ce:=Hd br;have ah:=Hd I;clear I
   go_wp2_with fail
   go_roundw
   case rel=>exact⟨i+1,A4,c4,by omega,by go_num,by rw[ce.out.out],ah.out,O,ae⟩
   simp[intOf];omega
  obtain rfl:i=m.length:=by omega
  rw[List.take_length]at I am ⊢;have aW:=λq U=>I.own_lt (b:=q) U
  have ca:=a5.out.ext RPl.good aj;obtain⟨nx,aN⟩:=nm (qdx s m)
  have bG:Hid (qgz s (d-(k+1)) (E++nx) nx=qgx s d):=by
   show _=_;have h1:=am.out;rw[<- G.out.2.2.2,show d-k=(d-(k+1))+1 from by omega,qgz,if_neg (by omega),aN]
  have cb:Hid (∀p∈nx,p.tr.length<=k+1/\p.st.length<=1000000):=by
   intro p hp;rw[<- aN]at hp;obtain⟨q,U,hp⟩:=List.mem_flatMap.1 hp;obtain⟨x,hx,hp⟩:=List.mem_flatMap.1 hp;unfold qhc at hp
   split at hp
   .rw [List.mem_singleton.1 hp];have h1:=G.out.2.2.1 q U;have h2:=qp4 s x q.st;have h3:=aX.2.2.2.1;simp only[List.length_append,List.length_cons,List.length_nil];exact⟨by omega,by omega⟩
   simp at hp
  rw[aN]at I am aW ⊢;have X:=am.out;obtain⟨news,aR,hF⟩:=ca;obtain⟨ay,av,aV⟩:=id I
  rcases Joins.ownsRow_forms av with⟨hv,h0⟩ | ⟨g',co,hv⟩
  .injection hv with hv1 hv2 hv3
   subst hv1 hv3;have bI:nx=[]:=List.length_eq_zero_iff.1 h0;subst bI;have bK:E.length<=c/\c<=9223372036854775807:=by obtain⟨A',c',h1,h2,h3,_⟩:=a5.out.slx;injection h1 with _ _ h1;omega
   have cg:=run_append_nothing wr 200 200 204 i3 _ Tryz.underlying200 bH bQ (by omega) A E.length c bK.1 bK.2;have bV:Hid (qab RPl 2 204 w.heap.size (λ_=>True) wr E (.slice A E.length c)):=⟨news,aR,hF⟩
   go_wp2_with (at_builtin;refine Lib.wpList_append_run _ rfl _ _ _ _ rfl _ _ rfl rfl _ _ cg ?_)
   go_roundw
   case rel=>exact⟨k+1,E,[],A,c,none,0,by omega,by go_num,rfl,rfl,bV.out,⟨none,0,rfl,Nat.le_refl _,by decide,.inl rfl⟩,⟨b6,by simp,by simp,by have:=bG.out;rwa [List.append_nil]at this⟩,hE.trans' aj⟩
   simp[intOf];omega
  injection hv with hv1 _ hv3
  subst hv1 hv3;have bE:∀j u,ay[j]? = some u->wr.cell? ((⟨g',0,none⟩:Addr).add j)=some u:=av.cells rfl;have b9:=aV.len;have bZ:=aV.one RPl.good;have cA:=aj.size;have a7:Flat RPl 2 (λb=>True/\(Value.slice A E.length c).ownBlock≠some b) wr nx ay:=aV.imp λy _ cs hy=>RPl.good.mono hy λb _ hb=>⟨trivial,by have:=hb.1;rwa [hT]at this⟩
  have HF:=Hd hF;have bS:=Hd a7;have ah:=Hd I;clear hF aV a7 I av
  go_wp2_with (at_builtin;refine wpList_append_own_at _ rfl _ _ 200 rfl w.heap.size 204 i3 _ 2 48 Tryz.underlying200 bH bQ ck cm rfl (by decide) _ _ _ rfl aR ⟨g',0,none⟩ nx.length c' ay rfl b9 bE bZ (by unfold maxLen;omega) (by omega) (by omega) ?_;intro v5 w5 aP aa bl aF)
  have bo:=qab.push RPl.good HF.out bS.out aP aa aF;obtain⟨A5,c5,ci,cC,cD,_⟩:=bo.slx;subst ci;have b1:Ext w w5:=Below.grown (hE.trans' aj) aa (by omega) λq U=>(aO q U).1
  have aK:qei RPl 2 (λb=>(Value.slice A5 (E++nx).length c5).ownBlock≠some b) w5 nx (.slice (some ⟨g',0,none⟩) nx.length c'):=by
   refine qei.turn RPl.good ah.out.slx ((Bt.of_grown aa).mono (Z':=λb=>(Value.slice A E.length c).ownBlock=some b) λb _ h=>h.symm) (λb hb e=>?_) (λb aU c n e=>?_) λb hb h=>⟨λe=>?_,λe=>?_⟩
   .have:=(aO b hb).2;have:=(aW b e).1;omega
   .injection e with e;injection e with e;injection e with e1 e2;exact e2.symm
   .have:=h.1;rw[hT]at this;exact this e
   rcases aF with h5 | h5
   .rw [h5]at e;have:=h.1;rw[hT]at this;exact this e
   rw[h5]at e;injection e with e;omega
  have bW:=Hd bo;have bT:=Hd aK;have bj:Hid ((E++nx).length<=4000):=by show _<=_;rw[List.length_append];omega
  clear aP aa aF bl aR bE bo aK
  go_wp2_with fail
  go_roundw
  case rel=>exact⟨k+1,E++nx,nx,A5,c5,some ⟨g',0,none⟩,c',by omega,by go_num,rfl,rfl,bW.out,bT.out,⟨bj.out,by omega,cb.out,bG.out⟩,b1⟩
  simp[intOf];omega
 obtain rfl:k=d:=by omega
 have bF:Hid (qgx s k=some E):=by
  show _=_;rw[<- G.out.2.2.2,Nat.sub_self,qgz]
 have HO:=Hd al;clear al ak
 go_wp2_with fail
 go_ret2;rw[bF.out];refine⟨A,c,rfl,?_,hE⟩;obtain⟨A3,c3,h1,h2,h3,h4⟩:=HO.out.slx;refine⟨A3,c3,h1,h2,h3,h4.imp id ?_⟩;rintro⟨b,aU,h5,h6,h7⟩;exact⟨b,aU,h5,h6,h7.imp (λy _ cs hy=>RPl.good.mono hy λq _ U=>trivial) rfl⟩
end
section
/- suite.generate,Generate: walked. -/
open Go.Shelf
theorem plNext_ok (s:Sy) (k:Nat) (d:List Pl) (h:∀p∈d,p.tr.length<=k/\(∀x∈p.tr,x∈s.ls)/\p.st.length<=s.es.length+1):∀p∈qdx s d,p.tr.length<=k+1/\(∀x∈p.tr,x∈s.ls)/\p.st.length<=s.es.length+1:=λp c=>by
 obtain⟨q,u,c⟩:=List.mem_flatMap.1 c;obtain⟨x,A,c⟩:=List.mem_flatMap.1 c;unfold qhc at c
 split at c
 .rw [List.mem_singleton.1 c];obtain⟨D,m,_⟩:=h q u;have E:=qp4 s x q.st;refine⟨by simp only[List.length_append,List.length_cons,List.length_nil];omega,λy hy=>?_,by show(qd0 s x q.st).length<=_;omega⟩
  rcases List.mem_append.1 hy with hy | hy
  .exact m y hy
  rw[List.mem_singleton.1 hy];exact A
 simp at c
theorem qr2 (s:Sy):∀(d k:Nat) (m c r:List Pl),(∀p∈m,p.tr.length<=k/\(∀x∈p.tr,x∈s.ls)/\p.st.length<=s.es.length+1)->(∀p∈c,p.tr.length<=k/\(∀x∈p.tr,x∈s.ls)/\p.st.length<=s.es.length+1)->m.length<=4000->qgz s d m c=some r ->
  (∀p∈r,p.tr.length<=k+d/\(∀x∈p.tr,x∈s.ls)/\p.st.length<=s.es.length+1)/\r.length<=4000
 | 0,k,m,c,r,h,_,hl,e=>by rw[qgz]at e;injection e with e;rw[<- e];exact⟨h,hl⟩
 | d+1,k,m,c,r,h,h',hl,e=>by
  rw[qgz]at e
  split at e
  .cases e
  rename_i hn;have A:=plNext_ok s k c h'
  have D:=qr2 s d (k+1) _ _ r (λp u=>by
   rcases List.mem_append.1 u with u | u
   .have:=h p u;exact⟨by omega,this.2⟩
   exact A p u) A (by rw[List.length_append];omega) e
  exact⟨λp u=>by have:=D.1 p u;exact⟨by omega,this.2⟩,D.2⟩
theorem qu8 (s:Sy) (d:Nat):(∀p∈qb7 (qgx s d),p.tr.length<=d/\(∀x∈p.tr,x∈s.ls)/\p.st.length<=s.es.length+1)/\(qb7 (qgx s d)).length<=4000:=by
 cases h:qgx s d with
 | none=>simp[qb7]
 | some r =>
  have c:∀p∈[(⟨[],qa4 s [0]⟩:Pl)],p.tr.length<=0/\(∀x∈p.tr,x∈s.ls)/\p.st.length<=s.es.length+1:=λp u=>by
   rw[List.mem_singleton.1 u];have m:=qkx s [0];have:=qhe s [0];simp only[List.length_cons,List.length_nil]at m;exact⟨Nat.le_refl _,by simp,by show(qa4 s [0]).length<=_;omega⟩
  have:=qr2 s d 0 _ _ r c c (by simp) h;simpa[qb7]using this
def qet (s:Sy):List Pl->List Te->Option (List Te)
 | [],out=>some out
 | p :: ps,out=>match qcc s p.st with
  | none=>none
  | some ms=>if 4000<(out++ms.map (Te.mk p.tr)).length then none else qet s ps (out++ms.map (Te.mk p.tr))
def qc1 (s:Sy) (d:Nat):Option (List Te):=match qgx s d with
 | none=>none
 | some pls=>qet s pls []
theorem infoTea:(Tryz.prog.info? 40).map (λi=>(i.zero,i.size,i.bytes))=some (some (.agg #[.slice none 0 0,.slice none 0 0]),2,48):=by kernel_rfl
theorem qwu (S:Nat->Prop) (s:Sy) (aK:qah s) (a6:qfk s) (g:Nat) (d:Nat) (w:World) (hS:qaz S w g s) (hd:d<=8) :
  Calls Tryz.prog 88 #[.pointer (some ⟨g,0,none⟩),.int .i64 (d:Int)] w (qpw RTe 2 40 (qb7 (qc1 s d)) (errO (qc1 s d)) w):=by
 have HS:Hid (qaz (λb=>b<w.heap.size) w g s):=hS.mono λb hb _=>hb
 have J:=places_c S s aK g d w hS hd;have ap:=qu8 s d;clear hS
 cases hp:qgx s d with
 | none =>
  have HV:Hid (qc1 s d=none):=by show _=_;rw[qc1,hp]
  rw[hp]at J;replace J:Calls Tryz.prog 160 #[.pointer (some ⟨g,0,none⟩),.int .i64 (d:Int)] w λe w'=>∃A c,e = .returned (.tuple #[.slice A 0 c,.int .i64 2])/\qei RPl 2 (λ_=>True) w' [] (.slice A 0 c)/\Ext w w':=J.mono λ_ _ h=>h
  clear hp ap
  go_enter Tryz.func88,Tryz.ntmps88
  go_wp2_with fail
  refine J.mono ?_;rintro e w1 ⟨A1,c1,rfl,aM,N⟩
  go_wp2_with fail
  go_ret2;rw[HV.out];exact⟨none,0,rfl,qab.nil ..,N⟩
 | some pls =>
  have HV:Hid (qc1 s d=qet s pls []):=by show _=_;rw[qc1,hp]
  rw[hp]at J ap;replace J:Calls Tryz.prog 160 #[.pointer (some ⟨g,0,none⟩),.int .i64 (d:Int)] w λe w'=>∃A c,e = .returned (.tuple #[.slice A pls.length c,.int .i64 0])/\qei RPl 2 (λ_=>True) w' pls (.slice A pls.length c)/\Ext w w':=J.mono λ_ _ h=>h
  simp only[qb7]at ap;obtain⟨i3,bj,a9⟩:=Option.map_eq_some_iff.1 infoTea;simp only[Prod.mk.injEq]at a9;obtain⟨br,bs,bu⟩:=a9;clear hp
  go_enter Tryz.func88,Tryz.ntmps88
  go_wp2_with fail
  refine J.mono ?_;rintro e wl ⟨A1,c1,rfl,aM,N⟩;have bb:=Hd aM;have bC:g<w.heap.size:=by obtain⟨_,_,_,_,h1,_⟩:=HS.out.ex;exact(Array.getElem?_eq_some_iff.1 h1).1
  clear aM J
  go_wp2_with fail
  go_loopw [8,26] (λvo vi wr=>∃(i:Nat) (D:List Te) (A:Option Addr) (c:Nat),i<=pls.length/\vi = .int .i64 i/\vo = .slice A D.length c/\qab RTe 2 40 wl.heap.size (λ_=>True) wr D (.slice A D.length c)/\Hid (D.length<=4000/\qet s (pls.drop i) D=qet s pls [])/\Ext wl wr) (λ_ vi _=>pls.length-(intOf vi).toNat)
  case atStart=>exact⟨0,[],none,0,Nat.zero_le _,rfl,rfl,qab.nil ..,⟨by simp,rfl⟩,Ext.refl _⟩
  obtain⟨i,D,A,c,hi,rfl,rfl,L,aE,hE⟩:=hrel
  by_cases aF:i<pls.length
  .obtain ⟨b,bG,cs,rfl,hb,hl,hr,O⟩:=bb.out.get i aF;obtain⟨tp,sp,rfl,av,au⟩:=id hr;have a0:=Ext.keep hE (O.get 0 _);have a1:=Ext.keep hE (O.get 1 _);simp only[Nat.add_zero]at a0;have ao:=ap.1 _ (List.getElem_mem aF);have Y:=aE.out.2;rw[List.drop_eq_getElem_cons aF]at Y;obtain⟨p,hp⟩:=nm (pls[i]);rw[hp]at ao av au Y;have aJ:=λq M=>L.own_lt (b:=q) M
   have a8:=N.size;have bz:=hE.size;have aa:=λW (hW:Ext wr W) vs (hv:RSl qad 1 (λ_=>True) W p.st [vs])=>musts_c (λb=>(Value.slice A D.length c).ownBlock≠some b) (λ_=>True) s aK g p.st vs W ((HS.out.bel (N.trans' (hE.trans' hW))).mono λq _ M e=>by have:=(aJ q e).1;omega) (λq M e=>by have:=(aJ q e).2;have:=hW.size;omega) hv (by have:=ao.2.2;have:=aK.2.2.2.1;omega)
   obtain⟨At,ct,rfl,_,_⟩:=av.val;obtain⟨As,bd,rfl,_,_⟩:=au.val;have HO:=Hd L;have aR:=Hd ((RSl.good qad.good).bel au hE);have bc:Hid (qaa (λb=>b<wl.heap.size) wl p.tr [.slice At p.tr.length ct]):=qaa.good.mono av λb hb _=>hb
   clear hr av au hl O hp L
   cases hm:qcc s p.st with
   | none =>
    have HF:Hid (qc1 s d=none):=by show _=_;rw[HV.out,<- Y,qet,hm]
    rw[hm]at aa;have ad:∀W,Ext wr W->∀vs,RSl qad 1 (λ_=>True) W p.st [vs]->Calls Tryz.prog 80 #[.pointer (some ⟨g,0,none⟩),vs] W λe w'=>∃A' c',e = .returned (.tuple #[.slice A' 0 c',.int .i64 2])/\qab qaa 1 22 W.heap.size (λb=>(Value.slice A D.length c).ownBlock≠some b) w' [] (.slice A' 0 c')/\Ext W w':=λW hW vs hv=>(aa W hW vs hv).mono λ_ _ h=>h
    clear Y hm aa
    go_wp2_with fail
    refine(ad _ ((Ext.refl _).alloc _) _ ((RSl.good qad.good).bel aR.out ((Ext.refl _).alloc _))).mono ?_;rintro e w2 ⟨A2,c2,rfl,aq,ak⟩
    go_wp2_with fail
    go_ret2;rw[HF.out];exact⟨none,0,rfl,qab.nil ..,N.trans' (hE.trans' (Ext.trans' ((Ext.refl _).alloc _) ak))⟩
   | some ms =>
    have an:=ql1 s p.st;have aj:=qpd s p.st;rw[hm]at aa an aj;have ad:∀W,Ext wr W->∀vs,RSl qad 1 (λ_=>True) W p.st [vs]->Calls Tryz.prog 80 #[.pointer (some ⟨g,0,none⟩),vs] W λe w'=>∃A' c',e = .returned (.tuple #[.slice A' ms.length c',.int .i64 0])/\qab qaa 1 22 W.heap.size (λb=>(Value.slice A D.length c).ownBlock≠some b) w' ms (.slice A' ms.length c')/\Ext W w':=λW hW vs hv=>(aa W hW vs hv).mono λ_ _ h=>h
    simp only[qb7]at an aj;clear aa;have aX:Hid (qet s pls []=if 4000<(D++ms.map (Te.mk p.tr)).length then none else qet s (pls.drop (i+1)) (D++ms.map (Te.mk p.tr))):=by show _=_;rw[<- Y,qet,hm]
    clear Y hm
    go_wp2_with fail
    refine(ad _ ((Ext.refl _).alloc _) _ ((RSl.good qad.good).bel aR.out ((Ext.refl _).alloc _))).mono ?_;rintro e w2 ⟨A2,c2,rfl,aq,ak⟩;have aT:=World.alloc_heap_new wr (.cells #[.slice At p.tr.length ct,.slice As p.st.length bd] 204);have e0:=Ext.keep ak (cell_of_row _ _ 0 _ _ _ aT);have aD:=Ext.trans' ((Ext.refl wr).alloc _) ak;have bA:wr.heap.size+1<=w2.heap.size:=by have:=ak.size;simp at this;omega
    have aQ:=Hd aq;obtain⟨wa,rfl⟩:∃wa,wa=wr:=⟨_,rfl⟩
    have bl:=λq M=>aq.own_lt (b:=q) M
    obtain⟨Z,hZ⟩:∃Z:Nat->Prop,Z=λq=>(Value.slice A D.length c).ownBlock=some q:=⟨_,rfl⟩
    obtain⟨G,ag⟩:∃G:Nat->List Te,G=λj=>D++(ms.take j).map (Te.mk p.tr):=⟨_,rfl⟩
    have aI:Hid (G 0=D):=by show _=_;rw[ag];simp
    have bm:Hid (∀j,(h:j<ms.length)->G (j+1)=G j++[Te.mk p.tr ms[j]]):=by
     intro j h;rw[ag];simp only;rw[List.take_succ_eq_append_getElem h,List.map_append,List.append_assoc];rfl
    have bn:Hid (G ms.length=D++ms.map (Te.mk p.tr)):=by show _=_;rw[ag];simp only[List.take_length]
    have bo:Hid (∀j,(G j).length<=4000+2000):=by
     intro j;have h1:=aE.out.1;have h2:=an.1;rw[ag];simp only[List.length_append,List.length_map,List.length_take];omega
    have ba:=Hd (HO.out.ext RTe.good aD);have aw:Ext wl w2:=hE.trans' aD;clear aT aq ag
    go_wp2_with fail
    go_loopw [8,42] (λvo vi wr=>∃(j:Nat) (A3:Option Addr) (c3:Nat),j<=ms.length/\vi = .int .i64 j/\vo = .slice A3 (G j).length c3/\qab RTe 2 40 wl.heap.size (λ_=>True) wr (G j) (.slice A3 (G j).length c3)/\Hid (Bt Z w2 wr/\(Z=(λq=>(Value.slice A3 (G j).length c3).ownBlock=some q)\/∀q,(Value.slice A3 (G j).length c3).ownBlock=some q->w2.heap.size<=q))/\Ext wl wr) (λ_ vi _=>ms.length-(intOf vi).toNat)
    case atStart=>exact⟨0,A,c,Nat.zero_le _,rfl,by rw[aI.out],by rw[aI.out];exact ba.out,⟨Bt.refl _ _,.inl (by rw[hZ,aI.out])⟩,aw⟩
    obtain⟨j,A3,c3,hj,rfl,rfl,E,I,am⟩:=hrel;have bk:=bo.out j
    by_cases X:j<ms.length
    .obtain ⟨bv,ah,_⟩:=id aQ.out;obtain⟨g4,bw,bg⟩:=Joins.ownsRow_form ah (by omega);injection bg with he41 _ he42
     subst he41 he42;have bh:=(bl g4 rfl)
     simp only[World.size_alloc]at bh;obtain⟨u,gc,aN,_⟩:=aQ.out.get1 j X;obtain⟨Am,cm,rfl,_,_⟩:=aN.val;have ax:∀q,wa.heap.size<=q->¬ Z q:=λq M h=>by rw[hZ]at h;have:=(aJ q h).2;omega
     have be:=I.out.1.cell gc (ax g4 (by omega));have bB:=I.out.1.cell e0 (ax wa.heap.size (Nat.le_refl _))
     have ai:qaa (λq=>(Value.slice A D.length c).ownBlock≠some q/\q<w2.heap.size) wr ms[j] [.slice Am ms[j].length cm] :=
      qaa.good.move (qaa.good.mono aN λq M h=>⟨h.1,M⟩) (I.out.1.kp λq _ h hz=>by rw[hZ]at hz;exact h.1 hz)
     have a7:=Hd (bm.out j X);have aY:=an.2 _ (List.getElem_mem X);have aZ:=aj _ (List.getElem_mem X);obtain⟨m,aG⟩:=nm (ms[j]);rw[aG]at ai be aY aZ;have aS:Hid (G (j+1)=G j++[⟨p.tr,m⟩]):=by show _=_;rw[a7.out,aG]
     have ay:=qrb (λb=>b<wl.heap.size) p.tr _ wr (qaa.good.bel bc.out am) (λx hx=>a6 x (ao.2.1 x hx)) (by have:=ao.1;omega);have az:=λW (hW:Ext wr W)=>qrb (λq=>(Value.slice A D.length c).ownBlock≠some q/\q<w2.heap.size) m _ W (qaa.good.bel ai hW) (λx hx=>a6 x (aZ x hx)) (by omega)
     have af:=λq M=>E.own_lt (b:=q) M
     have ab:=Hd E;have bx:=I.out.1.size;have bD:=aw.size;clear ah gc aN a7 aG E ai
     go_wp2_with fail
     refine ay.mono ?_;rintro e w5 ⟨A5,c5,rfl,a4,aO⟩
     go_wp2_with fail
     refine(az _ aO).mono ?_;rintro e w6 ⟨A6,c6,rfl,a5,aP⟩;have al:=aO.trans' aP;have bE:=aO.size;have bF:=aP.size;have bp:=ab.out.ext RTe.good (al.alloc (.cells #[.slice A5 p.tr.length c5,.slice A6 m.length c6] 40));obtain⟨news,aC,hF⟩:=bp;have aV:=qe7 w6 #[.slice A5 p.tr.length c5,.slice A6 m.length c6] 40
     have hy:RTe (λb=>True/\(Value.slice A3 (G j).length c3).ownBlock≠some b) (w6.alloc (.cells #[.slice A5 p.tr.length c5,.slice A6 m.length c6] 40)) ⟨p.tr,m⟩ [.slice A5 p.tr.length c5,.slice A6 m.length c6]:=by
      refine⟨_,_,rfl,qaa.good.bel (qaa.good.mono a4 λq _ M=>⟨trivial,λe=>?_⟩) (aP.alloc _),qaa.good.bel (qaa.good.mono a5 λq _ M=>⟨trivial,λe=>?_⟩) ((Ext.refl _).alloc _)⟩
      .have:=af q e
       rcases M with h | h
       .have h1:q<wl.heap.size:=h.1;omega
       omega
      have h3:=af q e
      rcases M with h | h
      .rcases I.out.2 with h4 | h4
       .have:Z q:=by rw[h4];exact e
        rw[hZ]at this;exact h.1.1 this
       have:=h4 q e;have:=h.1.2;omega
      omega
     have HF:=Hd hF;have HY:=Hd hy;clear hF hy a4 a5 ay az
     go_wp2_with (at_builtin;refine wpList_append_own_at _ rfl _ _ 34 rfl wl.heap.size 40 i3 _ 2 48 Tryz.underlying34 bj br bs bu rfl (by decide) _ _ _ rfl aC ⟨w6.heap.size,0,none⟩ 1 1 [.slice A5 p.tr.length c5,.slice A6 m.length c6] rfl rfl aV (by simp[Value.oneCell']) (by unfold maxLen;omega) (by omega) (by simp;omega) ?_;intro v8 w8 U F aH V;obtain⟨g8,c8,rfl⟩:=ownsRow_succ U)
     have bq:=Hd (qab.push RTe.good HF.out (Flat.single HY.out rfl) U F V);have bf:Ext wl w8:=Below.grown ((am.trans' al).alloc _) F (by simp;omega) λq M=>(af q M).1
     have aU:Bt Z w2 w8:=by
      have h1:Bt (λq=>Z q\/w2.heap.size<=q) w2 w8:=((I.out.1.mono λq _ h=>.inl h).trans (al.alloc _).bt).trans ((Bt.of_grown F).mono λq _ h=>by
       rcases I.out.2 with h4 | h4
       .left;rw[h4];exact h.symm
       exact .inr (h4 q h.symm))
      exact h1.mono λq M h=>h.resolve_right (by omega)
     have ac:Hid ((G (j+1)).length=(G j).length+1):=by show _=_;rw[aS.out,List.length_append];rfl
     have aL:Hid (Z=(λq=>(Value.slice (some ⟨g8,0,none⟩) (G (j+1)).length c8).ownBlock=some q)\/∀q,(Value.slice (some ⟨g8,0,none⟩) (G (j+1)).length c8).ownBlock=some q->w2.heap.size<=q):=by
      have a2:∀n,(Value.slice (some ⟨g8,0,none⟩) n c8).ownBlock=some g8:=λ_=>rfl
      rw[a2]at V ⊢
      rcases V with h | h
      .rw [h]
       rcases I.out.2 with h4 | h4
       .left;exact h4
       right;exact λq e=>h4 q (h ▸ e)
      right
      intro q e;rw[h]at e;injection e with e
      simp at e;omega
     clear U F V aH aC aV
     go_wp2_with fail
     go_roundw
     case rel=>exact⟨j+1,some ⟨g8,0,none⟩,c8,by omega,by go_num,by rw[ac.out],by rw[ac.out,aS.out];exact bq.out,⟨aU,aL.out⟩,bf⟩
     simp[intOf];omega
    obtain rfl:j=ms.length:=by omega
    obtain⟨o2,ae⟩:=nm (G ms.length);have a3:o2=D++ms.map (Te.mk p.tr):=by rw[<- ae];exact bn.out
    have aA:Hid (qet s pls []=if 4000<o2.length then none else qet s (pls.drop (i+1)) o2):=by show _=_;rw[aX.out,a3]
    rw[ae]at E ⊢;have ab:=Hd E;clear E I ae a3 bk
    by_cases aB:4000<o2.length
    .have HF:Hid (qc1 s d=none):=by show _=_;rw[HV.out,aA.out,if_pos aB]
     go_wp2_with fail
     go_ret2;rw[HF.out];exact⟨none,0,rfl,qab.nil ..,N.trans' am⟩
    have bi:Hid (qet s (pls.drop (i+1)) o2=qet s pls []):=by show _=_;rw[aA.out,if_neg aB]
    go_wp2_with fail
    go_roundw
    case rel=>exact⟨i+1,o2,A3,c3,by omega,by go_num,rfl,ab.out,⟨by omega,bi.out⟩,am⟩
    simp[intOf];omega
  obtain rfl:i=pls.length:=by omega
  have aW:Hid (qc1 s d=some D):=by show _=_;rw[HV.out,<- aE.out.2,List.drop_length,qet]
  have HO:=Hd L;have a8:=N.size;clear L
  go_wp2_with fail
  go_ret2;rw[aW.out];exact⟨A,c,rfl,HO.out.base a8,N.trans' hE⟩
open Classical in
noncomputable def genE (s:Sy) (d:Int):Int:=if qah s then (if 0<=d/\d<=8 then errO (qc1 s d.toNat) else 1) else 8
open Classical in
noncomputable def genR (s:Sy) (d:Int):List Te:=if qah s/\(0<=d/\d<=8) then qb7 (qc1 s d.toNat) else []
theorem qyx (S:Nat->Prop) (s:Sy) (U:qfk s) (cs:List Value) (d:Int) (w:World) (V:RSy S w s cs) :
  Calls Tryz.prog 20 #[.agg cs.toArray,.int .i64 d] w (qpw RTe 2 40 (genR s d) (genE s d) w):=by
 obtain⟨_,vl,ve,rfl,J,I⟩:=id V;obtain⟨Al,cl,rfl,_,_⟩:=J.val;obtain⟨Ae,ce,rfl,_,_⟩:=I.val;have X:=Hd V;clear V J I
 by_cases c:qah s
 case neg =>
  have m:=λW (O:Ext w W)=>qij S s _ W (RSy.good.bel X.out O) c
  have u:=Hd (And.intro (show genE s d=8 from if_neg c) (show genR s d=[] from if_neg λh=>c h.1))
  go_enter Tryz.func20,Tryz.ntmps20
  go_wp2_with fail
  refine(m _ bel).mono ?_;rintro e M ⟨rfl,N⟩
  go_wp2_with fail
  go_ret2;rw[u.out.1,u.out.2];exact⟨none,0,rfl,qab.nil ..,bel⟩
 have m:=λW (O:Ext w W)=>qhj S s _ W (RSy.good.bel X.out O) c
 by_cases A:0<=d
 case neg =>
  have u:=Hd (And.intro (show genE s d=1 from by rw[genE,if_pos c,if_neg λh=>A h.1]) (show genR s d=[] from if_neg λh=>A h.2.1))
  go_enter Tryz.func20,Tryz.ntmps20
  go_wp2_with fail
  refine(m _ bel).mono ?_;rintro e M ⟨g,rfl,N,L,hS⟩
  go_wp2_with fail
  go_ret2;rw[u.out.1,u.out.2];exact⟨none,0,rfl,qab.nil ..,bel⟩
 by_cases D:d<=8
 case neg =>
  have u:=Hd (And.intro (show genE s d=1 from by rw[genE,if_pos c,if_neg λh=>D h.2]) (show genR s d=[] from if_neg λh=>D h.2.2))
  go_enter Tryz.func20,Tryz.ntmps20
  go_wp2_with fail
  refine(m _ bel).mono ?_;rintro e M ⟨g,rfl,N,L,hS⟩
  go_wp2_with fail
  go_ret2;rw[u.out.1,u.out.2];exact⟨none,0,rfl,qab.nil ..,bel⟩
 have u:=Hd (And.intro (show genE s d=errO (qc1 s d.toNat) from by rw[genE,if_pos c,if_pos ⟨A,D⟩]) (show genR s d=qb7 (qc1 s d.toNat) from if_pos ⟨c,A,D⟩));have F:=λW g (L:qaz (λ_=>True) W g s)=>qwu (λ_=>True) s c U g d.toNat W L (by omega)
 rw[Int.toNat_of_nonneg A]at F
 go_enter Tryz.func20,Tryz.ntmps20
 go_wp2_with fail
 refine(m _ bel).mono ?_;rintro e M ⟨g,rfl,N,L,hS⟩;have E:Ext w M:=bel
 go_wp2_with fail
 refine(F _ g (hS.mono λ_ _ _=>trivial)).mono ?_;rintro e w2 ⟨Y,c2,rfl,G,h2⟩;have HO:=Hd (G.base E.size);clear G
 go_wp2_with fail
 go_ret2;rw[u.out.1,u.out.2];exact⟨Y,c2,rfl,HO.out,E.trans' h2⟩
end
end Go.Proofs.YtegenalcheooeaaGreat
