/- Of the proof of a law of the suites: RMarks, RClosed, RClosed2, RStart, RMoved. -/
import Derived.Test.YtegenalcheooeaaGreatAF02
import Derived.Test.YtegenalcheooeaaGreatB05
import Derived.Test.YtegenalcheooeaaGreatB06
import Derived.Test.YtegenalcheooeaaGreatB10
set_option linter.unusedSectionVars false
set_option linter.unusedSimpArgs false
set_option linter.unusedVariables false
namespace Go.Proofs.YtegenalcheooeaaGreat
open Go.RowKit
attribute [local go_sem] cell?_exto
set_option maxHeartbeats 16000000
set_option maxRecDepth 100000
section

def marksOf (n:Nat) (l:List Int):List Bool:=(List.range n).map λi:Nat=>decide ((i:Int)∈l)
theorem qcg (n:Nat) (l:List Int):(marksOf n l).length=n:=by simp[marksOf]
theorem qfn {n:Nat} {l:List Int} {i:Nat} (h:i<(marksOf n l).length):(marksOf n l)[i]=decide ((i:Int)∈l):=by simp[marksOf]
theorem qjk {n:Nat} (l:List Int) (i:Nat):(marksOf n l).set i true=marksOf n (l++[(i:Int)]):=by
 apply List.ext_getElem
 .rw [List.length_set,qcg,qcg]
 intro j g f;rw[List.getElem_set,qfn f]
 by_cases h:i=j
 .subst h;rw[if_pos rfl];exact(decide_eq_true (by simp)).symm
 rw[if_neg h,qfn]
 congr 1
 simp only[List.mem_append,List.mem_singleton,eq_iff_iff]
 constructor
 .exact .inl
 rintro(c | c)
 .exact c
 omega
theorem qoo {n:Nat} {l c:List Int} (h:∀i:Nat,i<n->((i:Int)∈l↔(i:Int)∈c)):marksOf n l=marksOf n c:=by
 unfold marksOf
 apply List.map_congr_left
 intro i hi;exact decide_eq_decide.2 (h i (List.mem_range.1 hi))
theorem qn3 (bs:List Bool) (j:Int):j∈mkL bs↔∃i:Nat,i<bs.length/\qdf bs i=true/\(i:Int)=j:=mkT_mem bs _ j
theorem qx8 (bs:List Bool):marksOf bs.length (mkL bs)=bs:=by
 apply List.ext_getElem
 .rw [qcg]
 intro i o c;rw[qfn o]
 cases f:bs[i]
 .rw [decide_eq_false_iff_not,qn3];rintro⟨k,r,g,q⟩;obtain rfl:k=i:=by omega
  rw[qd6 c,f]at g
  cases g
 rw[decide_eq_true_eq,qn3];exact⟨i,c,by rw[qd6 c,f],rfl⟩
def qdb (s:Sy) (bs:List Bool):List Bool:=marksOf s.n.toNat (qbm s ((mkL bs).length+s.es.length) 0 (mkL bs))
end
section
open Go.Shelf
theorem qab.boolT {c:Nat} {e:TypeId} {T g:Nat->Prop} {w:World} {xs:List Bool} {v:Value} (h:qab qac 1 e c T w xs v):qab qac 1 e c g w xs v:=by
 obtain⟨f,o,q⟩:=h;exact⟨f,o,q.imp λx _ cs h=>h⟩
theorem qzb (S:Nat->Prop) (w:World) (bs:List Bool) (A:Option Addr) (c:Nat) (J:RSl qac 1 S w bs [.slice A bs.length c]) (M:0<bs.length) (N:bs.length<=1000000) (U:∀W,Ext w W->RSl qac 1 S W bs [.slice A bs.length c]) :
  ∃q u f,(Builtin.append_ #[73,73] 73 #[.slice (some ⟨w.heap.size,0,none⟩) 0 0,.slice A bs.length c]).run Tryz.prog (w.alloc (.cells #[] 4)) = .ok (.slice (some ⟨q,0,none⟩) bs.length u) f /\
   RBs w.heap.size f bs (.slice (some ⟨q,0,none⟩) bs.length u)/\Ext w f/\w.heap.size<=q/\q<f.heap.size:=by
 have o:qab qac 1 4 w.heap.size (λ_=>True) (w.alloc (.cells #[] 4)) ([]:List Bool) (.slice (some ⟨w.heap.size,0,none⟩) 0 0) :=
  ⟨[],World.ownsRow_lit w #[] 0 (Nat.le_refl _) (by unfold maxLen;omega) rfl,rfl⟩
 have hy:RSl qac 1 (λb=>True/\(Value.slice (some ⟨w.heap.size,0,none⟩) 0 0).ownBlock≠some b) (w.alloc (.cells #[] 4)) bs [.slice A bs.length c]:=by
  refine(RSl.good qac.good).bel ((RSl.good qac.good).mono J λb y _=>⟨trivial,?_⟩) ((Ext.refl w).alloc _);simp[Value.ownBlock];omega
 obtain⟨L,B,f,hr,r,y⟩:=pushN qac.good (by decide) w.heap.size 4 73 (.bool false) 1 Tryz.underlying73 info4 rfl (by decide) (λ_=>True) (w.alloc (.cells #[] 4)) [] bs _ _ o hy (by simp) (by simp;omega);rw[List.nil_append]at hr r
 have E:Ext w f:=Bt.new ((Ext.refl w).alloc _) y λi _ hi=>by
  have:some w.heap.size=some i:=hi;injection this with this
  omega
 obtain⟨z,⟨O,v⟩,T⟩:=id r
 rcases v with⟨_,v⟩ | ⟨g,C,D,I,F,G,_⟩
 .omega
 injection I with hv1 hv2 hv3
 subst hv1 hv3;exact⟨g,B,f,hr,r.boolT,E,F,(Array.getElem?_eq_some_iff.1 G).1⟩
def qkm (n:Nat) (r:List Bool) (w:World) (e:Ending) (w':World):Prop:=∃A c,e = .returned (.slice A n c)/\RBs w.heap.size w' r (.slice A n c)/\Ext w w'
theorem qx2 (s:Sy) (c:Int) (hs:qh8 s.es) (g:List Int) (j:Nat) (o:j<(qd9 s.es c).length):∃h:j<(qay s.es c).length,((qd9 s.es c)[j]=s.es[(qay s.es c)[j]])/\qbi s ((qay s.es c).take (j+1)) g=qcr s (qbi s ((qay s.es c).take j) g) ((qd9 s.es c)[j]):=by
 have f:=qu7 hs c;have q:(qd9 s.es c).length=(qay s.es c).length:=by rw[f,List.length_map]
 refine⟨by omega,?_,?_⟩
 .simp only[f,List.getElem_map]
 rw[List.take_succ_eq_append_getElem (by omega),qva];simp only[f,List.getElem_map]
theorem qzi {s:Sy} {l:List Int} {e:Ed} (g:∀x∈l,0<=x/\x<s.n) (f:qb8 s e=true):∀x∈qcr s l e,0<=x/\x<s.n:=by
 rw[qiy]at f;intro x c;unfold qcr at c
 split at c
 .rcases List.mem_append.1 c with h | h
  .exact g x h
  rw[List.mem_singleton]at h;subst h;exact⟨f.2.2.1,f.2.2.2.1⟩
 exact g x c
end
section
open Go.Shelf
theorem qpu (S:Nat->Prop) (s:Sy) (X:qah s) (cs:List Value) (bs:List Bool) (v:Value) (w:World) (hx:RSy S w s cs) (hm:RSl qac 1 S w bs [v]) (bn:(bs.length:Int)=s.n) :
  Calls Tryz.prog 161 #[.agg cs.toArray,v] w (qkm bs.length (qdb s bs) w):=by
 have hs:=qzg X.2.2.2.2.2;have b4:=X.1;have cz:=X.2.1;have bY:=X.2.2.2.1;have bX:Hid (∀j,(h:j<s.es.length)->qb8 s s.es[j]=true):=λj h=>(X.2.2.2.2.2 j h).1
 obtain⟨S',aP⟩:∃S':Nat->Prop,S'=λq=>S q/\q<w.heap.size:=⟨_,rfl⟩
 have HX:=Hd (RSy.good.mono hx (S':=S') λq h1 h2=>by rw[aP];exact⟨h2,h1⟩);have a9:Hid (∀q,S' q->q<w.heap.size):=λq h=>by rw[aP]at h;exact h.2
 have HM:=Hd hm;obtain⟨_,v1,u1,rfl,hv,hu⟩:=id hx;obtain⟨Al,cl,rfl,cx,cg⟩:=hv.val;obtain⟨Ae,ce,rfl,cw,cd⟩:=hu.val;obtain⟨Ab,cb,rfl,cv,cc⟩:=hm.val;clear hx hv hu hm aP;have aW:s.n=(bs.length:Int):=bn.symm;have au:=Hd aW;have ck:=Hd X;have ah:=Hd hs;have bU:0<bs.length:=by omega
 have bi:bs.length<=20000:=by omega
 rw[aW];obtain⟨W0,aj⟩:=nm (w.alloc (.cells #[.int .i64 (bs.length:Int),.slice Al s.ls.length cl,.slice Ae s.es.length ce] 25));have av:Ext w W0:=by rw[<- aj];exact(Ext.refl w).alloc _
 have bc:qaf W0 w.heap.size 25 [.int .i64 (bs.length:Int),.slice Al s.ls.length cl,.slice Ae s.es.length ce]:=by rw[<- aj];exact qaf.new w 25 _
 have b9:W0.heap.size=w.heap.size+1:=by rw[<- aj,World.size_alloc]
 obtain⟨r,cm,F,aV,ap,aN,bZ,bo⟩:=qzb S W0 bs Ab cb ((RSl.good qac.good).bel HM.out av) bU (by omega) (λW hW=>(RSl.good qac.good).bel HM.out (av.trans' hW));rw[<- aj,World.size_alloc]at aV;have aM:=bc.ext aN;obtain⟨p0,aU⟩:=nm (w.heap.size);have cy:p0<r:=by omega
 have a3:Hid (Ext w F):=av.trans' aN;rw[aU]at aM;have aI:=Hd aM;have bK:=Hd aU;have aE:=Hd (ap.base (base':=w.heap.size) (by omega));have HG:Hid (w.heap.size<=r):=by show _<=_;omega
 have a5:Hid (∀k,(mkT bs k).length<=k):=λk=>mkT_len bs k
 clear av bc b9 aj ap aN bZ aM aU bn aW X hs b4
 go_enter Tryz.func161,Tryz.ntmps161
 go_wp2_with (at_builtin;refine wpList_append_run rfl _ _ _ rfl _ _ _ rfl rfl aV ?_;clear aV)
 rw[bK.out]
 go_loopw [6,7] (λv6 vi wr=>∃(k:Nat) (f:List Int) (C:Option Addr) (B:Nat),k<=bs.length/\vi = .int .i64 k/\v6 = .slice C f.length B/\Hid (f=mkT bs k)/\Ext F wr/\Hid (qab qad 1 3 F.heap.size (λ_=>False) wr f (.slice C f.length B))) (λ_ vi _=>bs.length-(intOf vi).toNat)
 case atStart=>exact⟨0,[],none,0,Nat.zero_le _,rfl,rfl,by simp[mkT,Hid],Ext.refl _,qab.nil ..⟩
 obtain⟨k,f,C,B,hk,rfl,rfl,U,hE,I⟩:=hrel;have u:=aI.out.ext hE;have x0:=u.cell 0 _;have xz:=u.lt;clear u
 by_cases L:k<bs.length
 .obtain ⟨ub,gc,ag,gf⟩:=qab.get1 (aE.out.ext qac.good hE) k L;have aq:ub = .bool bs[k]:=by simpa[qac]using ag
  subst aq;have bq:r<wr.heap.size:=Nat.lt_of_lt_of_le bo hE.size;have ae:=Hd (qte bs k);rw[qd6 L]at ae
  cases aw:bs[k]
  .rw [aw]at gc ae;clear ag aw gf
   go_wp2_with fail
   go_roundw
   case rel=>exact⟨k+1,f,C,B,by omega,by go_num,rfl,by rw[U.out];exact ae.out.symm,hE,I.out⟩
   simp[intOf];omega
  rw[aw]at gc ae;have aZ:f.length<=1000000:=by have:=a5.out k;rw[U.out];omega
  obtain⟨g2,c2,w2,ao,an,J,_,_⟩:=qcw qad.good (by decide) F.heap.size 3 53 (.int .i64 0) 8 Tryz.underlying53 qjb rfl (by decide) (λ_=>False) wr f (.slice C f.length B) (k:Int) [.int .i64 k] I.out ⟨rfl,by unfold I64;omega⟩ hE.size aZ;have aK:=Hd an;have bv:∀q,(Value.slice C f.length B).ownBlock=some q->F.heap.size<=q:=λq e=>(I.out.own_lt e).1
  have bG:Hid (Ext F w2):=Bt.new hE J λq _ h=>bv q h
  have bM:Hid (f++[(k:Int)]=mkT bs (k+1)):=by
   show _=_;rw[U.out];exact ae.out.symm
  clear ag aw gf I an J bv U ae
  go_wp2_with (at_builtin;refine wpList_append_run rfl _ _ _ rfl _ _ _ rfl rfl ao ?_;clear ao)
  go_roundw
  case rel=>exact⟨k+1,f++[(k:Int)],some ⟨g2,0,none⟩,c2,by omega,by go_num,by simp,bM.out,bG.out,(by have h:=aK.out;show qab _ _ _ _ _ _ _ _;simpa using h)⟩
  simp[intOf];omega
 have b1:k=bs.length:=by omega
 subst b1;have bF:r<F.heap.size:=bo;have bS:(mkL bs).length=(mkT bs bs.length).length:=rfl
 have aB:Hid (qdb s bs=marksOf bs.length (qbm s ((mkL bs).length+s.es.length) 0 (mkL bs))):=by
  show _=_;rw[qdb,au.out,Int.toNat_natCast]
 have Y:f.length+qb0 s f<=(mkL bs).length+s.es.length:=by have:=qhe s f;rw[U.out]at this ⊢;omega
 have aC:Hid (∀x∈f,0<=x/\x<s.n):=by
  intro x hx;rw[U.out]at hx;obtain⟨i,hi,_,rfl⟩:=(qn3 bs x).1 hx;rw[au.out];omega
 have aD:Hid (RBs w.heap.size wr (marksOf bs.length f) (.slice (some ⟨r,0,none⟩) bs.length cm)):=by
  show RBs _ _ _ _;rw[U.out,qx8];exact aE.out.ext qac.good hE
 have ar:Hid (qbm s ((mkL bs).length+s.es.length-0) 0 f=qbm s ((mkL bs).length+s.es.length) 0 (mkL bs)):=by
  show _=_;rw[U.out,Nat.sub_zero]
 have aQ:(mkL bs).length<=20000:=by have:=a5.out bs.length;omega
 obtain⟨R0,bf⟩:=nm (qbm s ((mkL bs).length+s.es.length) 0 (mkL bs));rw[bf]at aB ar;obtain⟨T,hT⟩:=nm ((mkL bs).length+s.es.length);rw[hT]at ar Y;have ct:T<=200000:=by omega
 have bI:Hid (qaa S' w s.ls [.slice Al s.ls.length cl]):=by
  obtain⟨_,va,ua,e,h1,_⟩:=HX.out;simp only[List.cons.injEq,and_true]at e;obtain⟨_,rfl,_⟩:=e;exact h1
 clear hT bf aQ U hk bS
 go_wp2_with fail
 clear x0 xz L;obtain⟨w7,rfl⟩:∃w7,w7=wr:=⟨_,rfl⟩
 go_loopw [6,8] (λv6 vi wr=>∃(k:Nat) (y:List Int) (C:Option Addr) (B:Nat),k<=y.length/\vi = .int .i64 k/\v6 = .slice C y.length B/\Bt (λq=>q=r) F wr/\Hid (qab qad 1 3 F.heap.size (λ_=>False) wr y (.slice C y.length B))/\Hid (RBs w.heap.size wr (marksOf bs.length y) (.slice (some ⟨r,0,none⟩) bs.length cm))/\Hid (∀x∈y,0<=x/\x<s.n)/\y.length+qb0 s y<=T/\Hid (qbm s (T-k) k y=R0)) (λ_ vi _=>T-(intOf vi).toNat)
 case atStart=>exact⟨0,f,C,B,Nat.zero_le _,rfl,rfl,hE.bt,I.out,aD.out,aC.out,Y,ar.out⟩
 clear Y aC aD ar hE I;obtain⟨k,y,C,B,hk,rfl,rfl,ax,I,z,bd,cj,hf⟩:=hrel;have aO:Ext w wr:=Bt.new a3.out ax λi _ hi=>by subst hi;exact HG.out
 have u:=aI.out.bt ax (λh:p0=r=>by omega);have x0:=u.cell 0 _;have x1:=u.cell 1 _;have x2:=u.cell 2 _;have xz:=u.lt;clear u
 by_cases L:k<y.length
 .obtain ⟨b,a1,cq,rfl,hb,bT,hl,hr,am⟩:=(I.out.sl qad.good (by decide)).get k L;obtain rfl:=hr.1;have g0:=(by simpa using am.get 0 _:wr.cell? ⟨b,a1+k,none⟩=some (.int .i64 y[k]))
  have br:=bd.out y[k] (List.getElem_mem L)
  have a4:Hid (∀m,T-k=m+1->qbm s m (k+1) (qbi s (qay s.es y[k]) y)=R0):=λm hm=>by
   rw[<- hf.out,hm,qbm,dif_pos L]
  obtain⟨N,bB⟩:=nm (y[k]);rw[bB]at g0 br a4;have ad:=λW (hW:Ext wr W)=>OutOf_c S' s ah.out _ N W (RSy.good.bel HX.out (aO.trans' hW)) (by omega) (by omega) (by omega)
  rw[au.out]at ad
  have aA:Hid (∀e∈qd9 s.es N,qb8 s e=true):=λe he=>by
   rw[qqu ah.out]at he;obtain⟨i,hi,rfl⟩:=List.getElem_of_mem (List.mem_filter.1 he).1;exact bX.out i hi
  have ai:=Hd (qx2 s N ah.out y)
  have az:Hid ((qay s.es N).take (qd9 s.es N).length=qay s.es N):=by
   show _=_;rw[qu7 ah.out,List.length_map,List.take_length]
  obtain⟨G,aT⟩:=nm (qd9 s.es N);have ch:G.length<=100000:=by rw[<- aT,qqu ah.out];exact Nat.le_trans (List.length_filter_le _ _) bY
  rw[aT]at ad aA ai az;have a8:=Hd (qhn s (qay s.es N) y);obtain⟨w6,rfl⟩:∃w6,w6=wr:=⟨_,rfl⟩
  clear am hl bT hr bB hf aT br
  go_wp2_with fail
  go_region_held3 (λW=>W.cell? ⟨p0,0,none⟩=some (.int .i64 (bs.length:Int))/\W.cell? ⟨p0,1,none⟩=some (.slice Al s.ls.length cl)/\W.cell? ⟨p0,2,none⟩=some (.slice Ae s.es.length ce)/\W.cell? ⟨b,a1+k,none⟩=some (.int .i64 N))
   (first | (refine⟨?_,?_,?_,?_⟩ <;> go_simp <;> done) | exact Ext.k4 ay (by assumption) | exact Ext.k4 (qag.ext ay) (by assumption) | exact Ext.k4 ((Ext.refl _).alloc _) (by assumption))
   (first | (go_at_call 226;refine(ad _ bel).mono ?_;rintro e w1 ⟨A1,c1,rfl,bg,ay⟩))
  go_wp2_with fail
  have aY:Ext w6 w1:=dx ay;have aG:=ax.ext aY;have bJ:=Hd (I.out.ext qad.good aY);have a6:=Hd (z.out.ext qac.good aY);have bL:=Hd bg;clear ay bg ax I z aO x0 x1 x2 xz g0 hb ad
  go_loopw [6,10] (λv6 vj wr=>∃(j:Nat) (f:List Int) (C:Option Addr) (B:Nat),j<=G.length/\vj = .int .i64 j/\v6 = .slice C f.length B/\Hid (f=qbi s ((qay s.es N).take j) y)/\Bt (λq=>q=r\/F.heap.size<=q) w1 wr/\Hid (qab qad 1 3 F.heap.size (λ_=>False) wr f (.slice C f.length B))/\Hid (RBs w.heap.size wr (marksOf bs.length f) (.slice (some ⟨r,0,none⟩) bs.length cm))/\Hid (∀x∈f,0<=x/\x<s.n)) (λ_ vj _=>G.length-(intOf vj).toNat)
  case atStart=>exact⟨0,y,some ⟨b,a1,none⟩,B,Nat.zero_le _,rfl,rfl,rfl,Bt.refl _ _,bJ.out,a6.out,bd.out⟩
  obtain⟨j,f,C,B,hj,rfl,rfl,U,J,I,z,aa⟩:=hrel;have ac:Bt (λq=>q=r) F wr:=((aG.mono (Z':=λq=>q=r\/F.heap.size<=q) λ_ _ h=>.inl h).trans J).mono λq hq hz=>hz.resolve_right (by omega)
  have bR:Ext w wr:=Bt.new a3.out ac λi _ hi=>by subst hi;exact HG.out
  have u:=aI.out.bt ac (λh:p0=r=>by omega);have x1:=u.cell 1 _;have xz:=u.lt;clear u;have bq:r<wr.heap.size:=Nat.lt_of_lt_of_le bF ac.size
  by_cases af:j<G.length
  .have aF:RSl REd 3 S' wr G [.slice A1 G.length c1]:=(RSl.good REd.good).move bL.out (J.kp λq _ hq hz=>by
    have h1:=a9.out q hq;have h2:=HG.out;have cr:w.heap.size<=r:=h2;have b8:q=r\/F.heap.size<=q:=hz
    omega)
   obtain⟨be,oe,cn,rfl,bV,bh,b2,bz,al⟩:=aF.get j af;obtain⟨_,_,_,rfl⟩:=id bz;have e1:=al.get 1 _;have e2:=al.get 2 _;have M:=aA.out G[j] (List.getElem_mem af);have ab:=qzi aa.out M;rw[qiy]at M;obtain⟨bC,bD,A⟩:=ai.out j af;have c:qcr s f G[j]=if qhz s G[j].l = -1/\G[j].t∉f then f++[G[j].t] else f:=rfl
   obtain⟨ca,aS⟩:=nm (qcr s f G[j]);rw[<- U.out,aS]at A;rw[aS]at c ab;obtain⟨ql,bw⟩:=nm (G[j].l);obtain⟨qt,bx⟩:=nm (G[j].t);rw[bw]at e1 M c;rw[bx]at e2 M c;obtain⟨li,rfl⟩:∃li:Nat,ql=(li:Int):=⟨ql.toNat,by omega⟩
   obtain⟨E,rfl⟩:∃E:Nat,qt=(E:Int):=⟨qt.toNat,by omega⟩
   have bu:li<s.ls.length:=by omega
   have aX:E<bs.length:=by have:=au.out;omega
   rw[qos s rfl bu]at c;obtain⟨bl,ol,cp,bQ,cu,aQ,b3,bA,aH⟩:=(qaa.good.bel bI.out bR).get li bu;subst bQ;obtain⟨_,vl,rfl,b7⟩:=id bA;have gl:=aH.get 0 _;simp only[Nat.add_zero]at gl;obtain⟨ub,gc,ag,gf⟩:=qab.get1 z.out E (by rw[qcg];exact aX)
   have aq:ub = .bool (decide ((E:Int)∈f)):=by
    have h:=ag;rw[qfn]at h;simpa[qac]using h
   subst aq;have z1:(0:Int)<=(li:Int):=by omega
   have z2:(li:Int)<(s.ls.length:Int):=by omega
   have z3:(0:Int)<=(E:Int):=by omega
   have z4:(E:Int)<(bs.length:Int):=by omega
   have z5:(0:Int)<=(j:Int):=by omega
   have z6:(j:Int)<(G.length:Int):=by omega
   obtain⟨gg,bp⟩:=nm (s.ls[li].g);rw[bp]at c gl
   have bW:be≠r:=λh=>by
    have h1:=a9.out be bh;have h2:w.heap.size<=r:=HG.out;omega
   clear aF bz al b2 bh bC bD aS bw bx M bA aH b7 b3 aQ ag bp
   by_cases V:gg = -1
   .have bi:(gg == -1)=true:=beq_iff_eq.2 V
    by_cases D:(E:Int)∈f
    .rw [decide_eq_true D]at gc;rw[if_neg (λh=>h.2 D)]at c;have HC:Hid (f=qbi s ((qay s.es N).take (j+1)) y):=by show _=_;rw[A,c]
     clear A c D V gf
     go_wp2_with fail
     (refine qap ?_;(repeat (first | go_big_quiet_step ((fail)) | quiet_step ((fail))));refine wpQuiet_nil ?_)
     intro w4 o
     go_wp2_with fail
     go_roundw
     case rel=>exact⟨j+1,f,C,B,af,by go_num,rfl,HC.out,J.ext o,I.out.ext qad.good o,z.out.ext qac.good o,aa.out⟩
     simp[intOf];omega
    rw[decide_eq_false D]at gc;rw[if_pos ⟨V,D⟩]at c;have HC:Hid (f++[(E:Int)]=qbi s ((qay s.es N).take (j+1)) y):=by show _=_;rw[A,c]
    have bH:Hid (∀x∈f++[(E:Int)],0<=x/\x<s.n):=by rw[c]at ab;exact ab
    clear A c D V ab
    go_wp2_with fail
    (refine qap ?_;(repeat (first | go_big_quiet_step ((fail)) | quiet_step ((fail))));refine wpQuiet_nil ?_)
    intro w4 o;obtain⟨cA,bO,bE,bP⟩:=qab.get1 (z.out.ext qac.good o) E (by rw[qcg];exact aX);have bb:=Ext.keep o e2;have bk:be<w4.heap.size:=Nat.lt_of_lt_of_le bV o.size;have ci:r<w4.heap.size:=Nat.lt_of_lt_of_le bq o.size;have O:=Hd (qab.put1 qac.good (z.out.ext qac.good o) (qcg _ _).symm E (.bool true) true (by rw[qcg];exact aX) rfl);have ak:Bt (λq=>q=r) w4 (w4.setCell ⟨r,E,none⟩ (.bool true)):=Bt.set (Z:=λq=>q=r) (Bt.refl _ w4) (p:=⟨r,E,none⟩) (.inr rfl) _
    have aL:=Hd ((I.out.ext qad.good o).bt qad.good ak λq hq hz=>⟨λh=>h,λe=>by
     have h:=((I.out.ext qad.good o).own_lt e).1;have b8:q=r:=hz
     omega⟩)
    have bN:=ak.cell bb (λh:be=r=>bW h);have bm:be<(w4.setCell ⟨r,E,none⟩ (.bool true)).heap.size:=Nat.lt_of_lt_of_le bk ak.size;have aJ:=Hd ((J.ext o).trans (ak.mono (Z':=λq=>q=r\/F.heap.size<=q) λq _ (h:q=r)=>Or.inl h));clear e2 gc gf gl e1 bE x1
    go_upto_region 17 with (fail)
    obtain⟨W5,aR⟩:=nm (w4.setCell ⟨r,E,none⟩ (.bool true));rw[aR]at O aL bN aJ bm;rw[aR];clear aR ak bO bP bb;rw[qjk]at O
    have aZ:f.length<=1000000:=by
     have h:=(qhn s ((qay s.es N).take j) y).1;rw[<- U.out]at h;omega
    have b6:F.heap.size<=W5.heap.size:=Nat.le_trans aG.size aJ.out.size;obtain⟨g2,c2,w2,ao,an,bj,b0,_⟩:=qcw qad.good (by decide) F.heap.size 3 53 (.int .i64 0) 8 Tryz.underlying53 qjb rfl (by decide) (λ_=>False) W5 f (.slice C f.length B) (E:Int) [.int .i64 E] aL.out ⟨rfl,by unfold I64;omega⟩ b6 aZ;have aK:=Hd an;have a2:=Hd (bj.mono (Z':=λq=>(Value.slice C f.length B).ownBlock=some q) λ_ _ h=>h);have a7:Hid (∀q,(Value.slice C f.length B).ownBlock=some q->F.heap.size<=q):=λq e=>(aL.out.own_lt e).1
    clear an bj b0 I z U
    go_wp2_with (at_builtin;refine wpList_append_run rfl _ _ _ rfl _ _ _ rfl rfl ao ?_;clear ao)
    go_roundw
    case rel =>
     refine⟨j+1,f++[(E:Int)],some ⟨g2,0,none⟩,c2,af,by go_num,by simp,HC.out,?_,(by have h:=aK.out;show qab _ _ _ _ _ _ _ _;simpa using h),?_,bH.out⟩
     .exact aJ.out.trans (a2.out.mono λq _ h=>.inr (a7.out q h))
     exact qe6 O.out a2.out λq e e'=>by
      have h1:r=q:=by
       have h:some r=some q:=e;injection h
      have h2:=a7.out q e';omega
    simp[intOf];omega
   have bi:(gg == -1)=false:=beq_eq_false_iff_ne.2 V;rw[if_neg (λh=>V h.1)]at c;have HC:Hid (f=qbi s ((qay s.es N).take (j+1)) y):=by show _=_;rw[A,c]
   clear A c V gf gc
   go_wp2_with fail
   (refine qap ?_;(repeat (first | go_big_quiet_step ((fail)) | quiet_step ((fail))));refine wpQuiet_nil ?_)
   intro w4 o
   go_wp2_with fail
   go_roundw
   case rel=>exact⟨j+1,f,C,B,af,by go_num,rfl,HC.out,J.ext o,I.out.ext qad.good o,z.out.ext qac.good o,aa.out⟩
   simp[intOf];omega
  obtain rfl:j=G.length:=by omega
  have ba:Hid (f=qbi s (qay s.es N) y):=by
   show _=_;rw[U.out,az.out]
  have b5:f.length+qb0 s f<=T/\y.length<=f.length:=by
   have h:=a8.out;rw[<- ba.out]at h;omega
  clear U
  go_wp2_with fail
  go_roundw
  case rel =>
   refine⟨k+1,f,C,B,by omega,by go_num,rfl,ac,I.out,z.out,aa.out,b5.1,?_⟩;obtain⟨m,hm⟩:∃m,T-k=m+1:=⟨T-k-1,by omega⟩
   have h:=a4.out m hm;rw[<- ba.out]at h;rw[show T-(k+1)=m from by omega];exact h
  simp[intOf];omega
 have HR:Hid (qdb s bs=marksOf bs.length y):=by
  show _=_;have h:=hf.out;rw[aB.out,<- h]
  cases hq:T-k with
  | zero=>rw[qbm]
  | succ m=>rw[qbm,dif_neg L]
 go_wp2_with fail
 go_ret;exact⟨some ⟨r,0,none⟩,cm,rfl,by rw[HR.out];exact z.out,aO⟩
end
section
open Go.Shelf
def bs0 (n:Nat):List Bool:=(List.replicate n false).set 0 true
theorem bs0_len (n:Nat):(bs0 n).length=n:=by simp[bs0]
theorem qpt (S:Nat->Prop) (s:Sy) (J:qah s) (cs:List Value) (n:Nat) (hn:s.n=(n:Int)) (w:World) (Y:RSy S w s cs) :
  Calls Tryz.prog 89 #[.agg cs.toArray] w (qkm n (qdb s (bs0 n)) w):=by
 have U:0<n:=by have:=J.1;omega
 have ag:n<=20000:=by have:=J.2.1;omega
 have C:=λW (hW:Ext w W) v (V:RSl qac 1 (λ_=>True) W (bs0 n) [v])=>qpu (λ_=>True) s J cs (bs0 n) v W (RSy.good.bel (RSy.good.mono Y λ_ _ _=>trivial) hW) V (by rw[bs0_len,hn])
 obtain⟨_,v1,u1,rfl,V,hu⟩:=id Y;obtain⟨Al,cl,rfl,ae,ad⟩:=V.val;obtain⟨Ae,ce,rfl,af,ac⟩:=hu.val;clear Y V hu;rw[hn]at C ⊢;rw[bs0_len]at C;obtain⟨u,o⟩:=nm (w.alloc (.cells #[.int .i64 (n:Int),.slice Al s.ls.length cl,.slice Ae s.es.length ce] 25));have N:Ext w u:=by rw[<- o];exact(Ext.refl w).alloc _
 have z:qaf u w.heap.size 25 [.int .i64 (n:Int),.slice Al s.ls.length cl,.slice Ae s.es.length ce]:=by rw[<- o];exact qaf.new w 25 _
 have L:u.heap.size=w.heap.size+1:=by rw[<- o,World.size_alloc]
 have f:=qf4 u u.heap.size n (Nat.le_refl _) (by omega);have T:=qhy u n (by omega);obtain⟨y,B⟩:=nm (u.alloc (.cells (Array.replicate n (.bool false)) 4));rw[B]at f T;have F:Ext u y:=by rw[<- B];exact(Ext.refl _).alloc _
 have E:=z.ext F;have aa:y.heap.size=w.heap.size+2:=by rw[<- B,World.size_alloc,L]
 rw[L]at f T;have r:=qab.put1 qac.good f (by simp) 0 (.bool true) true (by simpa using U) rfl;obtain⟨_,gc,_,gf⟩:=qab.get1 f 0 (by simpa using U);have I:Bt (λq=>q=w.heap.size+1) y (y.setCell ⟨w.heap.size+1,0,none⟩ (.bool true)):=Bt.set (Z:=λq=>q=w.heap.size+1) (Bt.refl _ y) (p:=⟨w.heap.size+1,0,none⟩) (.inr rfl) _;have g:=E.bt I (by omega)
 have G:Ext w (y.setCell ⟨w.heap.size+1,0,none⟩ (.bool true)):=Bt.new (N.trans' F) I λi _ hi=>by
  have h:i=w.heap.size+1:=hi;omega
 have ab:=Hd r;have D:=Hd G;have M:=Hd (C _ G _ ((RSl.good qac.good).mono (r.sl qac.good (by decide)) λ_ _ _=>trivial));have X:=Hd o;have x1:=z.cell 0 _;have xz:=z.lt;have y1:=E.lt;have c0:=g.cell 0 _;have c1:=g.cell 1 _;have c2:=g.cell 2 _;have cz:=g.lt;have zn:(0:Int)<(n:Int):=by omega
 clear z E g I G N F f r C o B L aa
 go_enter Tryz.func89,Tryz.ntmps89
 go_upto_region 1 with (fail)
 rw[X.out]
 go_wp2_with fail
 obtain⟨W2,O⟩:=nm (y.setCell ⟨w.heap.size+1,0,none⟩ (.bool true));rw[O]at M D c0 c1 c2 cz;rw[O]
 go_wp2_with fail
 refine M.out.mono ?_;rintro e w3 ⟨A,c,rfl,h1,h2⟩
 go_wp2_with fail
 go_ret;exact⟨A,c,rfl,h1.base D.out.size,D.out.trans' h2⟩
end
section
open Go.Shelf
def mvB (s:Sy) (x:Lb) (bs:List Bool) (e:Ed):Bool:=qdf bs e.f.toNat && (match s.ls[e.l.toNat]? with | some y=>qa8 y x | none=>false)
def mvL (s:Sy) (x:Lb) (bs:List Bool) (k:Nat):List Int:=((s.es.take k).filter (mvB s x bs)).map (·.t)
theorem mvL_succ (s:Sy) (x:Lb) (bs:List Bool) {k:Nat} (h:k<s.es.length):mvL s x bs (k+1)=if mvB s x bs s.es[k]=true then mvL s x bs k++[s.es[k].t] else mvL s x bs k:=by
 unfold mvL;rw[List.take_succ_eq_append_getElem h,List.filter_append,List.map_append,List.filter_cons]
 split <;> simp
theorem qkk (n:Nat):marksOf n []=List.replicate n false:=by
 apply List.ext_getElem
 .simp [marksOf]
 intro i c f;rw[qfn c]
 simp
theorem qpo (S:Nat->Prop) (s:Sy) (Y:qah s) (cs:List Value) (n:Nat) (hn:s.n=(n:Int)) (bs:List Bool) (V:bs.length=n) (v:Value) (x:Lb) (cx:List Value) (w:World) (hx:RSy S w s cs) (hm:RSl qac 1 S w bs [v]) (ao:RLb S w x cx) :
  Calls Tryz.prog 91 #[.agg cs.toArray,v,.agg cx.toArray] w (qkm n (qdb s (marksOf n (mvL s x bs s.es.length))) w):=by
 have bk:0<n:=by have:=Y.1;omega
 have bm:n<=20000:=by have:=Y.2.1;omega
 have bj:=Y.2.2.2.1;have aX:Hid (∀j,(h:j<s.es.length)->qb8 s s.es[j]=true):=λj h=>(Y.2.2.2.2.2 j h).1
 have HX:=Hd hx;have HM:=Hd hm;have av:=Hd ao;have aN:=Hd (λW (hW:Ext w W) u (hu:RSl qac 1 (λ_=>True) W (marksOf n (mvL s x bs s.es.length)) [u])=>qpu (λ_=>True) s Y cs (marksOf n (mvL s x bs s.es.length)) u W (RSy.good.bel (RSy.good.mono hx λ_ _ _=>trivial) hW) hu (by rw[qcg,hn]));obtain⟨_,v1,u1,rfl,hv,hu⟩:=id hx;obtain⟨Al,cl,rfl,a9,a8⟩:=hv.val;obtain⟨Ae,ce,rfl,bi,a7⟩:=hu.val;obtain⟨Ab,cb,rfl,aW,a6⟩:=hm.val;obtain⟨_,vx,rfl,a4⟩:=id ao;have aQ:=Hd hv;have aP:=Hd hu;have HN:=Hd hn;clear hx hv hu hm ao a4;rw[hn,V];rw[V]at aW;have aM:=Hd V;obtain⟨gx,am⟩:=nm (x.g);rw[am];rw[am]at av;clear hn V am;obtain⟨Wa,T⟩:=nm (w.alloc (.cells #[.int .i64 (n:Int),.slice Al s.ls.length cl,.slice Ae s.es.length ce] 25));have ab:qaf Wa w.heap.size 25 [.int .i64 (n:Int),.slice Al s.ls.length cl,.slice Ae s.es.length ce]:=by rw[<- T];exact qaf.new w 25 _
 have au:Wa.heap.size=w.heap.size+1:=by rw[<- T,World.size_alloc]
 have aB:Ext w Wa:=by rw[<- T];exact(Ext.refl w).alloc _
 obtain⟨W0,O⟩:=nm (Wa.alloc (.cells #[.int .i64 gx,vx] 61));have aA:qaf W0 (w.heap.size+1) 61 [.int .i64 gx,vx]:=by rw[<- O,<- au];exact qaf.new Wa 61 _
 have L:Ext Wa W0:=by rw[<- O];exact(Ext.refl Wa).alloc _
 have ar:W0.heap.size=w.heap.size+2:=by rw[<- O,World.size_alloc,au]
 have I:=qf4 W0 W0.heap.size n (Nat.le_refl _) (by omega);have ap:=qhy W0 n (by omega);obtain⟨W1,ad⟩:=nm (W0.alloc (.cells (Array.replicate n (.bool false)) 4));rw[ad]at I ap;have ac:Ext W0 W1:=by rw[<- ad];exact(Ext.refl _).alloc _
 have ax:=(ab.ext L).ext ac;have ay:=aA.ext ac;have a5:W1.heap.size=w.heap.size+3:=by rw[<- ad,World.size_alloc,ar]
 rw[ar]at I ap;have aO:=Hd ((aB.trans' L).trans' ac);have aJ:=Hd ax;have aK:=Hd ay
 have ah:Hid (RBs w.heap.size W1 (marksOf n (mvL s x bs 0)) (.slice (some ⟨w.heap.size+2,0,none⟩) n n)):=by
  show RBs _ _ _ _;rw[mvL,List.take_zero,List.filter_nil,List.map_nil,qkk];exact I.base (by omega)
 obtain⟨G,aE⟩:=nm (w.heap.size+2);have x0:=(ab.ext L).cell 0 _;have xz:=(ab.ext L).lt;rw[aE]at ah ap;have aY:G<W1.heap.size:=by omega
 have HG:Hid (w.heap.size<=G):=by show _<=_;omega
 have aS:=Hd T;have aR:=Hd O;have a1:w.heap.size≠G:=by omega
 have aF:w.heap.size+1≠G:=by omega
 clear ax ay ab aA aB L ac I ad T O au ar a5 aE
 go_enter Tryz.func91,Tryz.ntmps91
 go_upto_region 1 with (fail)
 rw[aS.out,aR.out]
 go_wp2_with fail
 go_loopw [8] (λvi wr=>∃k:Nat,k<=s.es.length/\vi = .int .i64 k/\Bt (λq=>q=G) W1 wr/\Hid (RBs w.heap.size wr (marksOf n (mvL s x bs k)) (.slice (some ⟨G,0,none⟩) n n))) (λvi _=>s.es.length-(intOf vi).toNat)
 case atStart=>exact⟨0,Nat.zero_le _,rfl,Bt.refl _ _,ah.out⟩
 clear x0 xz;obtain⟨k,hk,rfl,F,M⟩:=hrel;have hE:Ext w wr:=Bt.new aO.out F λi _ hi=>by subst hi;exact HG.out
 have U:=aJ.out.bt F a1;have af:=aK.out.bt F aF;have x0:=U.cell 0 _;have x1:=U.cell 1 _;have x2:=U.cell 2 _;have y0:=af.cell 0 _;have y1:=af.cell 1 _;have xz:=U.lt;have yz:=af.lt;have aZ:G<wr.heap.size:=Nat.lt_of_lt_of_le aY F.size;clear U af;have ae:∀(o:Obj) (y:World),Ext wr (qam (wr.alloc o) y):=λo y=>((Ext.refl wr).alloc o).trans' (qa7 _ y)
 by_cases ag:k<s.es.length
 .obtain ⟨b,bn,bd,rfl,hb,hS,hl,hr,z⟩:=(qa3.good.bel aP.out hE).get k ag;obtain⟨_,_,_,rfl⟩:=id hr;have g0:=z.get 0 _;have g1:=z.get 1 _;have g2:=z.get 2 _;simp only[Nat.add_zero]at g0;have D:=aX.out k ag;have E:=mvL_succ s x bs ag;have C:mvB s x bs s.es[k]=(qdf bs s.es[k].f.toNat && (match s.ls[s.es[k].l.toNat]? with | some y=>qa8 y x | none=>false)):=rfl;rw[qiy]at D;obtain⟨qf,hq⟩:=nm (s.es[k].f);rw[hq]at D g0 C;clear hq;obtain⟨ql,hq⟩:=nm (s.es[k].l);rw[hq]at D g1 C;clear hq;obtain⟨qt,hq⟩:=nm (s.es[k].t);rw[hq]at D g2 E;clear hq;obtain⟨fi,rfl⟩:∃fi:Nat,qf=(fi:Int):=⟨qf.toNat,by omega⟩
  obtain⟨li,rfl⟩:∃li:Nat,ql=(li:Int):=⟨ql.toNat,by omega⟩
  obtain⟨J,rfl⟩:∃J:Nat,qt=(J:Int):=⟨qt.toNat,by omega⟩
  have hN:=HN.out;have az:=aM.out;have aG:li<s.ls.length:=by omega
  have aD:fi<bs.length:=by omega
  have aH:J<n:=by omega
  rw[Int.toNat_natCast,Int.toNat_natCast,List.getElem?_eq_getElem aG,qd6 aD]at C;obtain⟨bb,ob,aT,aU,bh,_,_,a2,aj⟩:=((RSl.good qac.good).bel HM.out hE).get fi aD;subst aU;obtain rfl:aT=[.bool bs[fi]]:=a2;have d0:=aj.get 0 _;simp only[Nat.add_zero,Nat.mul_one]at d0;obtain⟨bl,ol,bc,aV,V,_,_,aq,X⟩:=(qaa.good.bel aQ.out hE).get li aG;subst aV;have r:=λW (hW:Ext wr W)=>qk9 S _ x _ _ W (RLb.good.bel aq hW) (RLb.good.bel av.out (hE.trans' hW))
  obtain⟨_,vl,rfl,a3⟩:=id aq;have l0:=X.get 0 _;have l1:=X.get 1 _;simp only[Nat.add_zero]at l0;have z1:(0:Int)<=(li:Int):=by omega
  have z2:(li:Int)<(s.ls.length:Int):=by omega
  have z3:(0:Int)<=(fi:Int):=by omega
  have z4:(fi:Int)<(n:Int):=by omega
  have z5:(0:Int)<=(J:Int):=by omega
  have z6:(J:Int)<(n:Int):=by omega
  have z7:(0:Int)<=(k:Int):=by omega
  have z8:(k:Int)<(s.es.length:Int):=by omega
  have an:k+1<=s.es.length:=ag;simp only at C;obtain⟨bf,aC⟩:=nm (bs[fi]);rw[aC]at C d0;obtain⟨bt,ai⟩:=nm (qa8 s.ls[li] x);rw[ai]at C r;rw[C]at E;clear hr z hS hl D C hN az aj X aq a3 aC ai
  cases bf
  .have HC:Hid (mvL s x bs (k+1)=mvL s x bs k):=by show _=_;rw[E];rfl
   clear E r
   go_wp2_with fail
   (refine qap ?_;(repeat (first | go_big_quiet_step ((fail)) | quiet_step ((fail))));refine wpQuiet_nil ?_)
   intro w4 B
   go_wp2_with fail
   go_roundw
   case rel=>exact⟨k+1,an,by go_num,F.ext (Ext.trans' ((Ext.refl wr).alloc _) B),by rw[HC.out];exact M.out.ext qac.good (Ext.trans' ((Ext.refl wr).alloc _) B)⟩
   simp[intOf];omega
  cases bt
  .have HC:Hid (mvL s x bs (k+1)=mvL s x bs k):=by show _=_;rw[E];rfl
   clear E
   go_wp2_with fail
   (refine qap ?_;(repeat (first | go_big_quiet_step ((go_at_call 133;exact qaq (r _ (ae _ _)))) | quiet_step ((go_at_call 133;exact qaq (r _ (ae _ _))))));refine wpQuiet_nil ?_)
   intro w4 B
   go_wp2_with fail
   go_roundw
   case rel=>exact⟨k+1,an,by go_num,F.ext (Ext.trans' ((Ext.refl wr).alloc _) B),by rw[HC.out];exact M.out.ext qac.good (Ext.trans' ((Ext.refl wr).alloc _) B)⟩
   simp[intOf];omega
  have HC:Hid (mvL s x bs (k+1)=mvL s x bs k++[(J:Int)]):=by show _=_;rw[E];rfl
  clear E
  go_wp2_with fail
  (refine qap ?_;(repeat (first | go_big_quiet_step ((go_at_call 133;exact qaq (r _ (ae _ _)))) | quiet_step ((go_at_call 133;exact qaq (r _ (ae _ _))))));refine wpQuiet_nil ?_)
  intro w4 B;have al:Ext wr w4:=Ext.trans' ((Ext.refl wr).alloc _) B;have N:=M.out.ext qac.good al;obtain⟨bo,be,aI,bg⟩:=qab.get1 N J (by rw[qcg];exact aH);have aa:=qab.put1 qac.good N (qcg _ _).symm J (.bool true) true (by rw[qcg];exact aH) rfl;have aL:Hid (Bt (λq=>q=G) W1 (w4.setCell ⟨G,J,none⟩ (.bool true))):=Bt.set (Z:=λq=>q=G) (F.ext al) (p:=⟨G,J,none⟩) (.inr rfl) _;have t4:=Ext.keep B (show(wr.alloc (.cells #[.int .i64 (fi:Int),.int .i64 (li:Int),.int .i64 (J:Int)] 88)).cell? ⟨wr.heap.size,2,none⟩=some (.int .i64 (J:Int)) from(qaf.new wr 88 [.int .i64 (fi:Int),.int .i64 (li:Int),.int .i64 (J:Int)]).cell 2 _);have tz:wr.heap.size<w4.heap.size:=by have:=B.size;rw[World.size_alloc]at this;omega
  have ba:G<w4.heap.size:=Nat.lt_of_lt_of_le aZ al.size;rw[qjk,<- HC.out]at aa;have aw:=Hd aa;clear aa N aI M r
  go_wp2_with fail
  go_roundw
  case rel=>exact⟨k+1,an,by go_num,aL.out,aw.out⟩
  simp[intOf];omega
 obtain rfl:k=s.es.length:=by omega
 have ak:=aN.out wr hE _ ((RSl.good qac.good).mono (M.out.sl qac.good (by decide)) λ_ _ _=>trivial);rw[qcg,HN.out]at ak
 go_wp2_with fail
 refine ak.mono ?_;rintro e w3 ⟨A,c,rfl,h1,h2⟩
 go_wp2_with fail
 go_ret;exact⟨A,c,rfl,h1.base hE.size,hE.trans' h2⟩
end
end Go.Proofs.YtegenalcheooeaaGreat
