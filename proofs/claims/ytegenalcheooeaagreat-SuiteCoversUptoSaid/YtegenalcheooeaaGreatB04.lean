/- Of the proof of a law of the suites: Sys, Sys2, Row, Clone, Ord, SortI, LKeyW. -/
import Derived.Test.YtegenalcheooeaaGreatB01
import Derived.Test.YtegenalcheooeaaGreatB02
import Derived.Test.YtegenalcheooeaaGreatB03
import Derived.Test.YtegenalcheooeaaGreatLaid
import Derived.StillTailTactics
import Derived.Lib.SliceRun
import Derived.Shelf.Lay
import Derived.Shelf.Sort.Plain
import Derived.Shelf.Slices.In.SortNone
import Derived.Ground.Names2Prog
import Derived.Sort.OwnSortedInts
set_option linter.unusedSectionVars false
set_option linter.unusedSimpArgs false
set_option linter.unusedVariables false
namespace Go.Proofs.YtegenalcheooeaaGreat
open Go.RowKit
attribute [local go_sem] cell?_exto
set_option maxHeartbeats 16000000
set_option maxRecDepth 100000
section

def qdv:Nat->List Ed->Int->List Int
 | _,[],_=>[]
 | i,e :: es,n=>if e.f=n then (i:Int) :: qdv (i+1) es n else qdv (i+1) es n
def qd2 (es:List Ed) (n:Int):List Int:=qdv 0 es n
theorem qu4 (n:Int):∀(c d:List Ed) (i:Nat),qdv i (c++d) n=qdv i c n++qdv (i+c.length) d n
 | [],d,i=>by simp[qdv]
 | e :: c,d,i=>by
  rw[List.cons_append,qdv,qdv,qu4 n c d (i+1)];have:i+1+c.length=i+(e :: c).length:=by simp only[List.length_cons];omega
  rw[this]
  split <;> simp
theorem qx7 (c:List Ed) (k:Nat) (h:k<c.length) (n:Int):qd2 (c.take (k+1)) n=if c[k].f=n then qd2 (c.take k) n++[(k:Int)] else qd2 (c.take k) n:=by
 rw[List.take_succ_eq_append_getElem h,qd2,qu4];have:0+(c.take k).length=k:=by simp;omega
 rw[this,qdv,qdv]
 split <;> simp[qd2]
theorem qsv (n:Int):∀(c:List Ed) (i:Nat),(qdv i c n).length<=c.length
 | [],i=>by simp[qdv]
 | e :: c,i=>by
  have:=qsv n c (i+1);rw[qdv]
  split <;> simp only[List.length_cons] <;> omega
theorem qtp (n:Int):∀(c:List Ed) (i:Nat) (x:Int),x∈qdv i c n->∃j,∃h:j<c.length,x=(i+j:Nat)/\c[j].f=n
 | [],i,x,h=>by simp[qdv]at h
 | e :: c,i,x,h=>by
  rw[qdv]at h
  have d:x∈qdv (i+1) c n->∃j,∃h:j<(e :: c).length,x=(i+j:Nat)/\(e :: c)[j].f=n:=λh=>by
   obtain⟨j,A,u,m⟩:=qtp n c (i+1) x h;exact⟨j+1,by simpa using A,by rw[u];congr 1;omega,by simpa using m⟩
  split at h
  .rename_i m
   rcases List.mem_cons.1 h with rfl | h
   .exact ⟨0,by simp,by simp,m⟩
   exact d h
  exact d h
structure Rows (w:World) (base:Nat) (f:Int->Option Value) (g:Int->List Int):Prop where
 no:∀n,f n=none->g n=[]
 own:∀n v,f n=some v->w.ownsRow base 3 1 v (g n).length ((g n).map (Value.int .i64))
 apart:∀n n' v v',n≠n'->f n=some v->f n'=some v'->v.ownBlock=none\/v.ownBlock≠v'.ownBlock
theorem Rows.kept {w w':World} {base:Nat} {f:Int->Option Value} {g:Int->List Int} (h:Rows w base f g) {row:Option Nat} (u:w.grownBy w' row) (hr:∀k,row=some k->k<base):Rows w' base f g:={
 no:=h.no
 own n v hv:=(h.own n v hv).kept u (by
  rcases hb:v.ownBlock with _ | k
  .exact .inl rfl
  refine .inr λe=>?_
  have A:=hr k e.symm
  rcases(h.own n v hv).2 with⟨rfl,_⟩ | ⟨D,c,m,rfl,d,_⟩
  .simp [Value.ownBlock]at hb
  simp[Value.ownBlock]at hb;omega)
 apart:=h.apart }
theorem qcb {w:World} {base n size:Nat} {e:TypeId} {v:Value} {xs:List Value} (h:w.ownsRow base e size v n xs) (k:Nat) (c:v.ownBlock=some k):base<=k/\k<w.heap.size:=by
 rcases h.2 with⟨rfl,_⟩ | ⟨g,m,u,rfl,d,A,_⟩
 .simp [Value.ownBlock]at c
 have:g=k:=by simpa[Value.ownBlock]using c
 subst this;exact⟨d,(Array.getElem?_eq_some_iff.1 A).1⟩
theorem Rows.put {w D:World} {base:Nat} {f:Int->Option Value} {g:Int->List Int} (h:Rows w base f g) (n:Int) (x:Int) {m:Value}
  (A:D.ownsRow base 3 1 m ((g n).length+1) ((g n).map (Value.int .i64)++[.int .i64 x])) (L:w.grownBy D ((f n).getD (.slice none 0 0)).ownBlock)
  (d:m.ownBlock=((f n).getD (.slice none 0 0)).ownBlock\/∃b,m.ownBlock=some b/\w.heap.size<=b) :
  Rows D base (λb=>if b=n then some m else f b) (λb=>if b=n then g n++[x] else g b):={
 no b hb:=by
  show(if b=n then g n++[x] else g b)=[]
  by_cases e:b=n
  .simp [e]at hb
  simp only[e,if_false]at hb ⊢;exact h.no b hb
 own b v hv:=by
  show D.ownsRow base 3 1 v (if b=n then g n++[x] else g b).length _
  by_cases e:b=n
  .subst e;simp only[if_true,Option.some.injEq]at hv;subst hv;simpa using A
  simp only[e,if_false]at hv ⊢;refine(h.own b v hv).kept L ?_
  cases hn:f n with
  | none =>
   rcases hb0:v.ownBlock with _ | k
   .exact .inl rfl
   exact .inr (by simp[Value.ownBlock])
  | some u=>rw[Option.getD_some];exact h.apart b n v u e hv hn
 apart b b' v u hne hv hu:=by
  have key:∀c y,c≠n->f c=some y->m.ownBlock=none\/m.ownBlock≠y.ownBlock:=by
   intro c y I hy
   rcases d with d | ⟨k,J,G⟩
   .rw [d]
    cases hn:f n with
    | none=>exact .inl (by simp[Value.ownBlock])
    | some z=>rw[Option.getD_some];exact h.apart n c z y (Ne.symm I) hn hy
   refine .inr ?_;rw[J];intro e;have:=(qcb (h.own c y hy) k e.symm).2;omega
  by_cases e:b=n
  .subst e;simp only[if_true,Option.some.injEq]at hv;subst hv;rw[if_neg (Ne.symm hne)]at hu;exact key b' u (Ne.symm hne) hu
  rw[if_neg e]at hv
  by_cases F:b'=n
  .subst F;simp only[if_true,Option.some.injEq]at hu;subst hu
   rcases key b v e hv with E | E
   .rcases hb:v.ownBlock with _ | k
    .exact .inl rfl
    exact .inr (by rw[E];simp)
   rcases hb:v.ownBlock with _ | k
   .exact .inl rfl
   exact .inr (by rw[<- hb];exact Ne.symm E)
  rw[if_neg F]at hu
  exact h.apart b b' v u hne hv hu }
theorem own_read {w:World} {base:Nat} {v:Value} {xs:List Int} (h:w.ownsRow base 3 1 v xs.length (xs.map (Value.int .i64))) (F:∀x∈xs,I64 x) (S:Nat->Prop) (hS:∀k,base<=k->S k):RSl qad 1 S w xs [v]:=by
 rcases h.2 with⟨rfl,L⟩ | ⟨g,d,I,rfl,E,M,hn,G,J,D⟩
 .obtain rfl:xs=[]:=List.eq_nil_of_length_eq_zero L;exact⟨none,0,rfl,Nat.le_refl _,by omega,.inl rfl⟩
 refine⟨_,d,rfl,hn,by unfold maxLen at G;omega,.inr ⟨g,0,rfl,(Array.getElem?_eq_some_iff.1 M).1,hS g E,qc2.of_get λi hi=>⟨[.int .i64 xs[i]],rfl,⟨rfl,F _ (List.getElem_mem hi)⟩,?_⟩⟩⟩;intro j u m
 have A:j=0:=by
  rcases j with _ | j
  .rfl
  simp at m
 subst A;simp at m;subst m;have c:=h.cells (g:=g) rfl i (.int .i64 xs[i]) (by simp[hi]);simpa[Addr.add_lit]using c
structure qaz (S:Nat->Prop) (W:World) (g:Nat) (s:Sy):Prop where
 mk ::
 ex:∃(v u:Value) (m:Nat) (f:Int->Option Value),W.heap[g]? = some (.cells #[.int .i64 s.n,v,u,.map (some m)] 184 (0,0))/\qaa S W s.ls [v]/\qa3 S W s.es [u]/\S g/\S m /\
  IsMap (Value.int .i64) W m f/\(∀n,f n=none->qd2 s.es n=[])/\(∀n x,f n=some x->RSl qad 1 S W (qd2 s.es n) [x])
theorem qaz.move {S:Nat->Prop} {W W':World} {g:Nat} {s:Sy} (h:qaz S W g s) (c:Kp S W W'):qaz S W' g s:=by
 obtain⟨v,u,m,f,E,F,J,A,D,d,L,G⟩:=h.ex;exact⟨v,u,m,f,(c.block g (Array.getElem?_eq_some_iff.1 E).1 A).trans E,qaa.good.move F c,qa3.good.move J c,A,D,d.move (c.block m d.lt D),L,λn x I=>(RSl.good qad.good).move (G n x I) c⟩
theorem qaz.bel {S:Nat->Prop} {W W':World} {g:Nat} {s:Sy} (h:qaz S W g s) (c:Ext W W'):qaz S W' g s:=h.move (Ext.kp c)
end
section
/- suite.newSystem,walked. -/
theorem Rows.look {w:World} {base:Nat} {f:Int->Option Value} {g:Int->List Int} (h:Rows w base f g) (n:Int):w.ownsRow base 3 1 ((f n).getD (.slice none 0 0)) (g n).length ((g n).map (Value.int .i64)):=by
 cases hn:f n with
 | none=>rw[h.no n hn];exact⟨by simp,.inl ⟨rfl,rfl⟩⟩
 | some v=>exact h.own n v hn
theorem Rows.congr {w:World} {base:Nat} {f:Int->Option Value} {g c:Int->List Int} (h:Rows w base f g) (e:∀n,c n=g n):Rows w base f c:=by
 have:c=g:=funext e;rw[this];exact h
theorem qf8 {P:Program} {c:Array Oper} {o:Oper} {a:Act} {w w':World} {K:Act->World->Prop} {Q:Exit->Act->World->Prop} {E:Prop} (u:o.guard=none) (s x:Operand) (t:TypeId)
  (d:o.op=Op.call { callee:=Callee.builtin Builtin.append,args:=#[s,x],argTypes:=#[t,t] }) (v xv v':Value) (hs:a.eval s=v) (hx:a.eval x=xv)
  (hrun:(Builtin.append_ #[t,t] o.type #[v,xv]).run P w = .ok v' w') (hK:K (a.put o.dst v') w') :
  if Region.wanted o (yielded c a.tmps)=true then Oper.wp P o a w K Q else E:=by
 have m:Region.wanted o (yielded c a.tmps)=true:=by simp[Region.wanted,u]
 rw[if_pos m];unfold Oper.wp;simp[execOp,d,resolve,invoke,builtin,hs,hx,hrun,Result.andThen];exact hK
def SysPost (S:Nat->Prop) (s:Sy) (w:World) (e:Ending) (w':World):Prop :=
 ∃g,e = .returned (.tuple #[.pointer (some ⟨g,0,none⟩),.int .i64 0])/\Ext w w'/\w.heap.size<=g/\qaz (λk=>S k\/w.heap.size<=k) w' g s
theorem qij (S:Nat->Prop) (s:Sy) (cs:List Value) (w:World) (d:RSy S w s cs) (h:¬ qah s) :
  Calls Tryz.prog 78 #[.agg cs.toArray] w λe w'=>e = .returned (.tuple #[.pointer none,.int .i64 8])/\Ext w w':=by
 have c:=λW h=>Check_c S s cs W h
 rw[qe0 h]at c;obtain⟨_,v,u,rfl,A,D⟩:=id d;have m:=Hd d;clear d A D h
 go_enter Tryz.func78,Tryz.ntmps78
 go_wp2_with fail
 refine(c _ (RSy.good.bel m.out bel)).mono ?_;rintro e F ⟨rfl,E⟩
 go_wp2_with fail
 go_ret2;exact⟨rfl,bel⟩
theorem qnf:(Tryz.prog.info? 3).map (λi=>(i.zero,i.size,i.bytes))=some (some (.int .i64 0),1,8):=by kernel_rfl
theorem qhj (S:Nat->Prop) (s:Sy) (cs:List Value) (w:World) (hx:RSy S w s cs) (h:qah s) :
  Calls Tryz.prog 78 #[.agg cs.toArray] w (SysPost S s w):=by
 have ag:=λW h=>Check_c S s cs W h
 rw[qhg h]at ag;have b4:s.es.length<=100000:=h.2.2.2.1;obtain⟨_,v,u,rfl,hv,hu⟩:=id hx;obtain⟨A',c',rfl,a2,aV⟩:=hu.val;have HX:=Hd hx;have HL:=Hd hv;have HE:=Hd hu;obtain⟨i3,aa,ap⟩:=Option.map_eq_some_iff.1 qnf;simp only[Prod.mk.injEq]at ap;obtain⟨ab,M,Y⟩:=ap;have I3:=Hd (And.intro aa (And.intro ab (And.intro M Y)));clear hx hv hu h aa ab M Y;have a1:=@run_makeMap Tryz.prog
 go_enter Tryz.func78,Tryz.ntmps78
 go_wp2_with fail
 refine(ag _ (RSy.good.bel HX.out bel)).mono ?_;rintro e c ⟨rfl,h1⟩;have aD:=h1.cells;have hz:w.heap.size<c.heap.size:=by have:=h1.size;simp at this;omega
 go_wp2_with fail
 have an:c.heap.size<((c.alloc (Obj.map #[] 0)).alloc (Obj.cells #[Value.int IntKind.i64 s.n,v,Value.slice A' s.es.length c',Value.map (some c.heap.size)] 184)).heap.size:=by simp;omega
 have ao:((c.alloc (Obj.map #[] 0)).alloc (Obj.cells #[Value.int IntKind.i64 s.n,v,Value.slice A' s.es.length c',Value.map (some c.heap.size)] 184)).heap[c.heap.size+1]? = some (Obj.cells #[Value.int IntKind.i64 s.n,v,Value.slice A' s.es.length c',Value.map (some c.heap.size)] 184):=by
  have:=Array.getElem?_push_size (xs:=(c.alloc (Obj.map #[] 0)).heap) (x:=Obj.cells #[Value.int IntKind.i64 s.n,v,Value.slice A' s.es.length c',Value.map (some c.heap.size)] 184)
  rwa [World.size_alloc]at this
 have ay:IsMap (Value.int .i64) ((c.alloc (Obj.map #[] 0)).alloc (Obj.cells #[Value.int IntKind.i64 s.n,v,Value.slice A' s.es.length c',Value.map (some c.heap.size)] 184)) c.heap.size (λ_=>none) :=
  (IsMap.new (Value.int .i64) c).move (Below.heap_alloc _ _ _ (by simp))
 have aR:=Hd ao;have aE:=Hd ay;clear ao ay
 go_loopw [20] (λi wr=>∃k:Nat,k<=s.es.length/\i = .int .i64 k/\Ext c wr/\c.heap.size+2<=wr.heap.size/\Hid (wr.heap[c.heap.size+1]? = some (Obj.cells #[Value.int IntKind.i64 s.n,v,Value.slice A' s.es.length c',Value.map (some c.heap.size)] 184)) /\
  Hid (∃f,IsMap (Value.int .i64) wr c.heap.size f/\Rows wr (c.heap.size+2) f (qd2 (s.es.take k)))) (λi _=>s.es.length-(intOf i).toNat)
 case atStart=>exact⟨0,Nat.zero_le _,rfl,bel,by simp,aR.out,λ_=>none,aE.out,⟨λ_ _=>rfl,λ_ _ h=>by simp at h,λ_ _ _ _ _ h=>by simp at h⟩⟩
 clear an aD;obtain⟨k,hk,rfl,hX,aZ,hg,f,hf,d⟩:=hrel
 by_cases av:k<s.es.length
 .obtain ⟨b,aX,cs,rfl,hb,hS,hl,hr,O⟩:=(qa3.good.bel HE.out (((Ext.refl w).alloc (Obj.cells #[Value.int IntKind.i64 s.n,v,Value.slice A' s.es.length c'] 25)).trans' (h1.trans' hX))).get k av;obtain⟨i1,i2,a0,rfl⟩:=id hr;obtain⟨g0,g1,g2⟩:=g3 O;have c3:wr.cell? ⟨c.heap.size+1,3,none⟩=some (.map (some c.heap.size)):=cell_of_row wr _ 3 _ _ _ hg.out;have aY:c.heap.size+1<wr.heap.size:=by omega
  obtain⟨wa,m⟩:∃wa,wa=wr.alloc (Obj.cells #[Value.int .i64 s.es[k].f,Value.int .i64 s.es[k].l,Value.int .i64 s.es[k].t] 88):=⟨_,rfl⟩
  obtain⟨A,D⟩:∃A,A=wa.alloc (Obj.cells #[Value.int .i64 k] 3):=⟨_,rfl⟩
  have ai:wa.heap[c.heap.size]? = wr.heap[c.heap.size]?:=by rw[m];exact Below.heap_alloc _ _ _ (by omega)
  have al:A.heap[c.heap.size]? = wr.heap[c.heap.size]?:=by rw[D,Below.heap_alloc _ _ _ (by rw[m];simp;omega)];exact ai
  have aP:=(hf.move (W':=wa.drew) ai).lookup Tryz.underlying182 qio (z:=.slice none 0 0) (by kernel_rfl) s.es[k].f;have aH:=(hf.move (W':=A.drew) al).lookup Tryz.underlying182 qio (z:=.slice none 0 0) (by kernel_rfl) s.es[k].f;have ac:=d.look s.es[k].f;have aj:=(ac.alloc (Obj.cells #[Value.int .i64 s.es[k].f,Value.int .i64 s.es[k].l,Value.int .i64 s.es[k].t] 88))
  rw[<- m]at aj;have X:=aj.alloc (Obj.cells #[Value.int .i64 (k:Int)] 3);rw[<- D]at X;obtain⟨aa,ab,M,Y⟩:=I3.out;have az:(qd2 (s.es.take k) s.es[k].f).length<=100000:=by have:=qsv s.es[k].f (s.es.take k) 0;rw[List.length_take]at this;unfold qd2;omega
  have aO:A.heap.size=wr.heap.size+2:=by rw[D,m];simp
  obtain⟨v',w2,aC,L,F,_,ae⟩:=run_append_own_at (P:=Tryz.prog) A.drew (c.heap.size+2) 53 53 3 i3 (.int .i64 0) 1 8 Tryz.underlying53 aa ab M Y rfl (by decide) _ _ _ X.drew ⟨wr.heap.size+1,0,none⟩ 1 1 [.int .i64 (k:Int)] rfl
   (λj u hu=>by
    rcases j with _ | j
    .simp at hu;subst hu;show A.cell? _=_;rw[D];have:wr.heap.size+1=wa.heap.size:=by rw[m];simp
     rw[Addr.add_lit,this]
     simp
    simp at hu) (by simp[Value.oneCell']) (by unfold maxLen;omega) (by omega) (by show _<=A.heap.size;omega)
  have E:∀q,((f s.es[k].f).getD (.slice none 0 0)).ownBlock=some q->c.heap.size+2<=q/\q<wr.heap.size:=λq hq=>qcb ac q hq
  have au:w2.heap[c.heap.size]? = wr.heap[c.heap.size]?:=(F.block _ (by show _<A.heap.size;omega) (by intro e;have:=E _ e.symm;omega)).trans al;have ah:=hf.move au;obtain⟨w3,aU,af,J⟩:=ah.store (P:=Tryz.prog) Tryz.underlying182 qio s.es[k].f v';have am:A.heap[c.heap.size+1]? = wr.heap[c.heap.size+1]?:=by rw[D,Below.heap_alloc _ _ _ (by rw[m];simp;omega),m];exact Below.heap_alloc _ _ _ (by omega)
  have ad:w2.heap[c.heap.size+1]? = wr.heap[c.heap.size+1]?:=(F.block _ (by show _<A.heap.size;omega) (by intro e;have:=E _ e.symm;omega)).trans am;have aA:A.heap.size<=w2.heap.size:=F.size;have aw:w2.heap.size<=w3.heap.size:=J.size;have N:w3.heap[c.heap.size+1]? = wr.heap[c.heap.size+1]?:=(J.block _ (by omega) (by intro e;injection e with e;omega)).trans ad
  have V:A.heap[wr.heap.size]? = some (Obj.cells #[Value.int .i64 s.es[k].f,Value.int .i64 s.es[k].l,Value.int .i64 s.es[k].t] 88):=by
   rw[D,Below.heap_alloc _ _ _ (by rw[m];simp),m];exact Array.getElem?_push_size
  have G:w2.heap[wr.heap.size]? = some (Obj.cells #[Value.int .i64 s.es[k].f,Value.int .i64 s.es[k].l,Value.int .i64 s.es[k].t] 88):=(F.block _ (by show _<A.heap.size;omega) (by intro e;have:=E _ e.symm;omega)).trans V;have U:w3.heap[wr.heap.size]? = some (Obj.cells #[Value.int .i64 s.es[k].f,Value.int .i64 s.es[k].l,Value.int .i64 s.es[k].t] 88):=(J.block _ (by omega) (by intro e;injection e with e;omega)).trans G;have aN:w2.cell? ⟨c.heap.size+1,3,none⟩=some (.map (some c.heap.size)):=cell_of_row w2 _ 3 _ _ _ (ad.trans hg.out);have aG:w3.cell? ⟨c.heap.size+1,3,none⟩=some (.map (some c.heap.size)):=cell_of_row w3 _ 3 _ _ _ (N.trans hg.out);have aT:w2.cell? ⟨wr.heap.size,0,none⟩=some (.int .i64 s.es[k].f):=cell_of_row w2 _ 0 _ _ _ G;have aJ:w3.cell? ⟨wr.heap.size,0,none⟩=some (.int .i64 s.es[k].f):=cell_of_row w3 _ 0 _ _ _ U;have aL:A.drew.cell? ⟨c.heap.size+1,3,none⟩=some (.map (some c.heap.size)):=cell_of_row A.drew _ 3 _ _ _ (am.trans hg.out);have aQ:A.drew.cell? ⟨wr.heap.size,0,none⟩=some (.int .i64 s.es[k].f):=cell_of_row A.drew _ 0 _ _ _ V;have eb:Ext wr A.drew:=by rw[D,m];exact(((Ext.refl wr).alloc _).alloc _).drew
  have ax:Ext c w3:=by
   refine Bt.new (Z:=λq=>c.heap.size<=q) hX ?_ (λ_ _ h=>h);exact(eb.bt.trans ((Bt.of_grown F).mono (λq _ e=>by have:=E q e.symm;omega))).trans ((Bt.of_grown J).mono (λq _ e=>by injection e with e;omega))
  have I:Rows w3 (c.heap.size+2) (λb=>if b=s.es[k].f then some v' else f b) (qd2 (s.es.take (k+1))):=by
   have r1:Rows A.drew (c.heap.size+2) f (qd2 (s.es.take k)):=d.kept (row:=none) ⟨eb.os,eb.tape,eb.output,eb.size,λq hq _=>eb.block q hq⟩ (λ_ h=>by cases h);have r2:=(r1.put s.es[k].f (k:Int) L F (ae.imp id λh=>⟨_,h,Nat.le_refl _⟩)).kept J (λq hq=>by injection hq with hq;omega);refine r2.congr λn=>?_
   rw[qx7 s.es k av n]
   by_cases e:n=s.es[k].f
   .subst e;simp
   rw[if_neg (Ne.symm e),if_neg e]
  have aM:=Hd ax;have aS:=Hd I;have aF:=Hd af;have aI:=Hd (N.trans hg.out);have aB:c.heap.size+2<=w3.heap.size:=by omega
  have aW:(k:Int)<100000:=by omega
  subst D;subst m;clear ai al ac aj X L F ae aO E au ah am ad aA aw N V G U eb ax I af J aa ab M Y hf d az hr hl hS O
  go_wp2_with fail
  go_region_held3 (λW=>W.cell? ⟨c.heap.size+1,3,none⟩=some (.map (some c.heap.size))/\W.cell? ⟨wr.heap.size,0,none⟩=some (.int .i64 s.es[k].f))
   (first | (refine⟨?_,?_⟩ <;> go_simp <;> done) | (refine⟨?_,?_⟩ <;> assumption))
   (refine qf8 rfl _ _ _ rfl _ _ _ rfl rfl aC ?_)
  all_goals clear aP aH aC aU aN aT aG aJ aL aQ
  all_goals go_wp2_with fail
  all_goals go_roundw
  all_goals first
   | exact⟨k+1,by omega,by go_num,aM.out,aB,aI.out,_,aF.out,aS.out⟩
   | (simp[intOf];omega)
 have ak:Ext w wr:=(((Ext.refl w).alloc (Obj.cells #[Value.int IntKind.i64 s.n,v,Value.slice A' s.es.length c'] 25)).trans' (h1.trans' hX))
 have aK:w.heap.size<=c.heap.size:=by omega
 have aq:s.es.take k=s.es:=List.take_of_length_le (by omega);rw[aq]at d;have HF:=Hd hf;have HR:=Hd d;clear hf d aq
 go_wp2_with fail
 go_ret2;refine⟨c.heap.size+1,rfl,ak,by omega,⟨v,.slice A' s.es.length c',c.heap.size,f,hg.out,?_,?_,.inr (by omega),.inr aK,HF.out,HR.out.no,λn x hx=>?_⟩⟩
 .exact qaa.good.mono (qaa.good.bel HL.out ak) (λ_ _ h=>.inl h)
 .exact qa3.good.mono (qa3.good.bel HE.out ak) (λ_ _ h=>.inl h)
 refine own_read (HR.out.own n x hx) (λy hy=>?_) _ (λq hq=>.inr (by omega));obtain⟨j,hj,rfl,_⟩:=qtp n s.es 0 y hy;exact⟨by omega,by omega⟩
end
section

def Flat {α:Type} (R:Rdr α) (k:Nat) (S:Nat->Prop) (w:World):List α->List Value->Prop
 | [],cs=>cs=[]
 | x :: xs,cs=>∃c1 c2,cs=c1++c2/\c1.length=k/\R S w x c1/\Flat R k S w xs c2
section
variable {α:Type} {R:Rdr α} {k:Nat}
theorem Flat.len {S:Nat->Prop} {w:World}:∀{xs:List α} {cs:List Value},Flat R k S w xs cs->cs.length=xs.length*k
 | [],cs,h=>by rw[show cs=[] from h];simp
 | x :: xs,cs,⟨c1,c2,h1,h2,_,h4⟩=>by
  rw[h1,List.length_append,h2,h4.len,List.length_cons,Nat.add_mul];omega
theorem Flat.imp {S S':Nat->Prop} {w w':World}:∀{xs:List α} {cs:List Value},Flat R k S w xs cs->(∀x∈xs,∀cs,R S w x cs->R S' w' x cs)->Flat R k S' w' xs cs
 | [],cs,h,_=>h
 | x :: xs,cs,⟨c1,c2,h1,h2,h3,h4⟩,hR=>⟨c1,c2,h1,h2,hR x (by simp) _ h3,h4.imp λy hy=>hR y (by simp[hy])⟩
theorem Flat.append {S:Nat->Prop} {w:World}:∀{xs ys:List α} {cs c:List Value},Flat R k S w xs cs->Flat R k S w ys c->Flat R k S w (xs++ys) (cs++c)
 | [],ys,cs,c,h,h'=>by rw[show cs=[] from h];exact h'
 | x :: xs,ys,cs,c,⟨c1,c2,h1,h2,h3,h4⟩,h'=>⟨c1,c2++c,by rw[h1,List.append_assoc],h2,h3,h4.append h'⟩
theorem Flat.single {S:Nat->Prop} {w:World} {x:α} {cs:List Value} (h:R S w x cs) (c:cs.length=k):Flat R k S w [x] cs:=⟨cs,[],by simp,c,h,rfl⟩
theorem Flat.one (c:Good R k) {S:Nat->Prop} {w:World}:∀{xs:List α} {cs:List Value},Flat R k S w xs cs->∀u∈cs,u.oneCell'=true
 | [],cs,h,u,hu=>by rw[show cs=[] from h]at hu;simp at hu
 | x :: xs,cs,⟨c1,c2,h1,h2,h3,h4⟩,u,hu=>by
  rw[h1,List.mem_append]at hu;exact hu.elim (c.one h3 u) (h4.one c u)
theorem qc2.flat {S:Nat->Prop} {w:World} {b:Nat}:∀{c:Nat} {xs:List α},qc2 R k S w b c xs->∃cs,Flat R k S w xs cs/\qfm w b c cs
 | _,[],_=>⟨[],rfl,λi v h=>by simp at h⟩
 | c,x :: xs,⟨⟨c1,h1,h2,h3⟩,h4⟩=>by
  obtain⟨c2,d,m⟩:=qc2.flat h4;refine⟨c1++c2,⟨c1,c2,rfl,h1,h2,d⟩,λi v h=>?_⟩;rw[List.getElem?_append]at h
  split at h
  .exact h3 i v h
  rename_i u;have:=m _ v h
  rwa [show c+k+(i-c1.length)=c+i from by omega]at this
theorem Flat.row {S:Nat->Prop} {w:World} {b:Nat}:∀{c:Nat} {xs:List α} {cs:List Value},Flat R k S w xs cs->qfm w b c cs->qc2 R k S w b c xs
 | _,[],_,_,_=>trivial
 | c,x :: xs,cs,⟨c1,c2,h1,h2,h3,h4⟩,hc=>by
  subst h1;refine⟨⟨c1,h2,h3,λi v h=>hc i v ?_⟩,h4.row λi v h=>?_⟩
  .have:=(List.getElem?_eq_some_iff.1 h).1;rw[List.getElem?_append_left this];exact h
  have:=hc (k+i) v (by rw[List.getElem?_append_right (by omega),show k+i-c1.length=i from by omega];exact h)
  rwa [show c+(k+i)=c+k+i from by omega]at this
def qab {α:Type} (R:Rdr α) (k:Nat) (e:TypeId) (base:Nat) (T:Nat->Prop) (w:World) (xs:List α) (v:Value):Prop :=
 ∃news,w.ownsRow base e k v xs.length news/\Flat R k (λb=>T b/\v.ownBlock≠some b) w xs news
variable {e:TypeId} {base:Nat} {T:Nat->Prop} {w w':World} {xs:List α} {v:Value}
theorem qab.nil (base:Nat) (T:Nat->Prop) (w:World):qab R k e base T w [] (.slice none 0 0):=⟨[],World.ownsRow_nil ..,rfl⟩
theorem qab.sl (h:qab R k e base T w xs v) (M:Good R k) (O:0<k):RSl R k (λb=>T b\/base<=b) w xs [v]:=by
 obtain⟨news,⟨U,m⟩,J⟩:=h
 rcases m with⟨rfl,m⟩ | ⟨g,A,c,rfl,G,E,L,N,hs,F⟩
 .have:xs=[]:=List.length_eq_zero_iff.1 m;subst this;exact⟨none,0,rfl,Nat.le_refl _,by decide,.inl rfl⟩
 refine⟨some ⟨g,0,none⟩,A,rfl,L,N,.inr ⟨g,0,rfl,(Array.getElem?_eq_some_iff.1 E).1,.inr G,?_⟩⟩;refine Flat.row (cs:=news) (J.imp λx _ cs I=>M.mono I λb _ d=>.inl d.1) λi u hi=>?_
 have D:c[i]? = some u:=by
  rw[<- F,List.getElem?_take]at hi
  split at hi
  .simpa using hi
  cases hi
 rw[Nat.zero_add];exact(cell_of_row w g i c e (0,0) E).trans D
theorem qab.keep (h:qab R k e base T w xs v) (I:Good R k) (A:∀b,b<w.heap.size->(T b\/base<=b)->w'.heap[b]? = w.heap[b]?) (hs:w.heap.size<=w'.heap.size):qab R k e base T w' xs v:=by
 obtain⟨news,⟨J,E⟩,G⟩:=h;refine⟨news,⟨J,E.imp id ?_⟩,G.imp λx _ cs F=>I.move F ⟨hs,λb c d=>A b c (.inl d.1)⟩⟩;rintro⟨g,m,u,rfl,c,D,h⟩;exact⟨g,m,u,rfl,c,(A g (Array.getElem?_eq_some_iff.1 D).1 (.inr c)).trans D,h⟩
theorem qab.ext (h:qab R k e base T w xs v) (m:Good R k) (c:Ext w w'):qab R k e base T w' xs v :=
 h.keep m (λb d _=>(Ext.kp (S:=λ_=>True) c).block b d trivial) c.size
theorem qab.mono {T':Nat->Prop} (h:qab R k e base T w xs v) (D:Good R k) (m:∀b,b<w.heap.size->T b->T' b):qab R k e base T' w xs v:=by
 obtain⟨news,E,A⟩:=h;exact⟨news,E,A.imp λx _ cs u=>D.mono u λb d c=>⟨m b d c.1,c.2⟩⟩
theorem qab.push (D:Good R k) {news cs:List Value} {ys:List α} {u:Value} (N:Flat R k (λb=>T b/\v.ownBlock≠some b) w xs news) (M:Flat R k (λb=>T b/\v.ownBlock≠some b) w ys cs)
  (m:w'.ownsRow base e k u (xs.length+ys.length) (news++cs)) (G:w.grownBy w' v.ownBlock) (c:u.ownBlock=v.ownBlock\/u.ownBlock=some w.heap.size):qab R k e base T w' (xs++ys) u:=by
 refine⟨news++cs,by rw[List.length_append];exact m,?_⟩
 have F:∀{E:List α} {ds},Flat R k (λb=>T b/\v.ownBlock≠some b) w E ds->Flat R k (λb=>T b/\u.ownBlock≠some b) w' E ds:=λh=>h.imp λx _ cs L=>by
  refine D.mono (S:=λb=>(T b/\v.ownBlock≠some b)/\b<w.heap.size) (D.move (D.mono L λb A d=>⟨d,A⟩) ⟨G.size,λb A d=>G.block b A (λe=>d.1.2 e.symm)⟩) ?_;rintro b _ ⟨⟨J,I⟩,O⟩;refine⟨J,?_⟩
  rcases c with c | c
  .rw [c];exact I
  rw[c];simp;omega
 exact(F N).append (F M)
end
def ql5 {α:Type} (R:Rdr α) (k:Nat) (t:TypeId) (S:Nat->Prop) (xs:List α) (w:World) (e:Ending) (w':World):Prop :=
 ∃v,e = .returned v/\qab R k t w.heap.size S w' xs v/\Ext w w'
end
section
/- slices.Clone at each element type. -/
theorem qix:(Tryz.prog.info? 61).map (λi=>(i.zero,i.size,i.bytes))=some (some (.agg #[.int .i64 0,.slice none 0 0]),2,32):=by kernel_rfl
theorem qpe (S:Nat->Prop) (xs:List (Lb)) (v:Value) (w:World) (N:RSl RLb 2 S w xs [v]) (ad:xs.length*32<=140737488355328) :
  Calls Tryz.prog 39 #[v] w (ql5 RLb 2 61 S xs w):=by
 obtain⟨A,c,M,hc,af,h⟩:=N;injection M with M
 subst M;have qn:∀(w:World) (a:Option Addr) (n c Y O:Nat),(binOp .eql 22 (.slice a n c) (.slice none Y O)).run Tryz.prog w = .ok (.bool a.isNone) w:=λw a n c Y O=>Lib.run_eql_slice_nil w _ _ a n c Y O Tryz.underlying22
 rcases A with _ | a
 .have V:xs=[]:=by
   rcases h with h | ⟨b,L,h,_⟩
   .exact h
   cases h
  subst V
  go_enter Tryz.func39,Tryz.ntmps39
  go_wp2
  go_ret;exact⟨_,rfl,qab.nil ..,Ext.refl _⟩
 obtain⟨news,hF,d⟩:∃news,Flat RLb 2 S w xs news/\∀j u,news[j]? = some u->w.cell? (a.add j)=some u:=by
  rcases h with rfl | ⟨b,L,U,hb,hS,hr⟩
  .exact ⟨[],rfl,λj u h=>by simp at h⟩
  obtain⟨news,h1,h2⟩:=hr.flat;injection U with U
  subst U;exact⟨news,h1,λj u G=>by rw[Addr.add_lit];exact h2 j u G⟩
 obtain⟨i3,aa,D⟩:=Option.map_eq_some_iff.1 qix;simp only[Prod.mk.injEq]at D;obtain⟨I,ab,X⟩:=D;have F:=Hd hF;have HC:=Hd d;clear hF d h
 go_enter Tryz.func39,Tryz.ntmps39
 go_wp2_with (at_builtin;refine wpList_append_own_at _ rfl _ _ 22 rfl w.heap.size 61 i3 _ 2 32 Tryz.underlying22 aa I ab X rfl (by decide) _ _ _ rfl (World.ownsRow_made w #[] 0 (Nat.le_refl _) (Nat.zero_le _) (by simp)) a xs.length c news rfl F.out.len (λj u G=>Lib.cell?_alloc_some _ (HC.out j u G)) (F.out.one RLb.good) (by unfold maxLen;omega) (by omega) (by simp) ?_)
 intro v' w1 E m ae ac
 go_wp2
 go_ret;have he:Ext w (w.alloc (.cells #[] 61)):=(Ext.refl w).alloc _;refine⟨v',rfl,?_,(he.grown m (by simp) (by intro k hk;simp[Value.ownBlock]at hk;omega))⟩
 have hp:=qab.push (xs:=[]) RLb.good (T:=S) (v:=.slice (some ⟨w.heap.size,0,none⟩) 0 0) (w:=w.alloc (.cells #[] 61)) (news:=[]) (cs:=news) (ys:=xs) rfl
  (F.out.imp λx _ cs N=>RLb.good.bel (RLb.good.mono N λb hb J=>⟨J,by simp[Value.ownBlock];omega⟩) he) (by simpa using E) m (by rw[World.size_alloc];exact ac)
 exact hp
theorem qm4:(Tryz.prog.info? 159).map (λi=>(i.zero,i.size,i.bytes))=some (some (.agg #[.int .i64 0,.int .i64 0,.slice none 0 0]),3,40):=by kernel_rfl
theorem cloneTm (S:Nat->Prop) (xs:List (Tm)) (v:Value) (w:World) (N:RSl RTm 3 S w xs [v]) (ad:xs.length*40<=140737488355328) :
  Calls Tryz.prog 152 #[v] w (ql5 RTm 3 159 S xs w):=by
 obtain⟨A,c,M,hc,af,h⟩:=N;injection M with M
 subst M;have qn:∀(w:World) (a:Option Addr) (n c Y O:Nat),(binOp .eql 59 (.slice a n c) (.slice none Y O)).run Tryz.prog w = .ok (.bool a.isNone) w:=λw a n c Y O=>Lib.run_eql_slice_nil w _ _ a n c Y O Tryz.underlying59
 rcases A with _ | a
 .have V:xs=[]:=by
   rcases h with h | ⟨b,L,h,_⟩
   .exact h
   cases h
  subst V
  go_enter Tryz.func152,Tryz.ntmps152
  go_wp2
  go_ret;exact⟨_,rfl,qab.nil ..,Ext.refl _⟩
 obtain⟨news,hF,d⟩:∃news,Flat RTm 3 S w xs news/\∀j u,news[j]? = some u->w.cell? (a.add j)=some u:=by
  rcases h with rfl | ⟨b,L,U,hb,hS,hr⟩
  .exact ⟨[],rfl,λj u h=>by simp at h⟩
  obtain⟨news,h1,h2⟩:=hr.flat;injection U with U
  subst U;exact⟨news,h1,λj u G=>by rw[Addr.add_lit];exact h2 j u G⟩
 obtain⟨i3,aa,D⟩:=Option.map_eq_some_iff.1 qm4;simp only[Prod.mk.injEq]at D;obtain⟨I,ab,X⟩:=D;have F:=Hd hF;have HC:=Hd d;clear hF d h
 go_enter Tryz.func152,Tryz.ntmps152
 go_wp2_with (at_builtin;refine wpList_append_own_at _ rfl _ _ 59 rfl w.heap.size 159 i3 _ 3 40 Tryz.underlying59 aa I ab X rfl (by decide) _ _ _ rfl (World.ownsRow_made w #[] 0 (Nat.le_refl _) (Nat.zero_le _) (by simp)) a xs.length c news rfl F.out.len (λj u G=>Lib.cell?_alloc_some _ (HC.out j u G)) (F.out.one RTm.good) (by unfold maxLen;omega) (by omega) (by simp) ?_)
 intro v' w1 E m ae ac
 go_wp2
 go_ret;have he:Ext w (w.alloc (.cells #[] 159)):=(Ext.refl w).alloc _;refine⟨v',rfl,?_,(he.grown m (by simp) (by intro k hk;simp[Value.ownBlock]at hk;omega))⟩
 have hp:=qab.push (xs:=[]) RTm.good (T:=S) (v:=.slice (some ⟨w.heap.size,0,none⟩) 0 0) (w:=w.alloc (.cells #[] 159)) (news:=[]) (cs:=news) (ys:=xs) rfl
  (F.out.imp λx _ cs N=>RTm.good.bel (RTm.good.mono N λb hb J=>⟨J,by simp[Value.ownBlock];omega⟩) he) (by simpa using E) m (by rw[World.size_alloc];exact ac)
 exact hp
theorem qso:(Tryz.prog.info? 22).map (λi=>(i.zero,i.size,i.bytes))=some (some (.slice none 0 0),1,24):=by kernel_rfl
theorem cloneLbs (S:Nat->Prop) (xs:List (List Lb)) (v:Value) (w:World) (N:RSl qaa 1 S w xs [v]) (ad:xs.length*24<=140737488355328) :
  Calls Tryz.prog 216 #[v] w (ql5 qaa 1 22 S xs w):=by
 obtain⟨A,c,M,hc,af,h⟩:=N;injection M with M
 subst M;have qn:∀(w:World) (a:Option Addr) (n c Y O:Nat),(binOp .eql 30 (.slice a n c) (.slice none Y O)).run Tryz.prog w = .ok (.bool a.isNone) w:=λw a n c Y O=>Lib.run_eql_slice_nil w _ _ a n c Y O Tryz.underlying30
 rcases A with _ | a
 .have V:xs=[]:=by
   rcases h with h | ⟨b,L,h,_⟩
   .exact h
   cases h
  subst V
  go_enter Tryz.func216,Tryz.ntmps216
  go_wp2
  go_ret;exact⟨_,rfl,qab.nil ..,Ext.refl _⟩
 obtain⟨news,hF,d⟩:∃news,Flat qaa 1 S w xs news/\∀j u,news[j]? = some u->w.cell? (a.add j)=some u:=by
  rcases h with rfl | ⟨b,L,U,hb,hS,hr⟩
  .exact ⟨[],rfl,λj u h=>by simp at h⟩
  obtain⟨news,h1,h2⟩:=hr.flat;injection U with U
  subst U;exact⟨news,h1,λj u G=>by rw[Addr.add_lit];exact h2 j u G⟩
 obtain⟨i3,aa,D⟩:=Option.map_eq_some_iff.1 qso;simp only[Prod.mk.injEq]at D;obtain⟨I,ab,X⟩:=D;have F:=Hd hF;have HC:=Hd d;clear hF d h
 go_enter Tryz.func216,Tryz.ntmps216
 go_wp2_with (at_builtin;refine wpList_append_own_at _ rfl _ _ 30 rfl w.heap.size 22 i3 _ 1 24 Tryz.underlying30 aa I ab X rfl (by decide) _ _ _ rfl (World.ownsRow_made w #[] 0 (Nat.le_refl _) (Nat.zero_le _) (by simp)) a xs.length c news rfl F.out.len (λj u G=>Lib.cell?_alloc_some _ (HC.out j u G)) (F.out.one qaa.good) (by unfold maxLen;omega) (by omega) (by simp) ?_)
 intro v' w1 E m ae ac
 go_wp2
 go_ret;have he:Ext w (w.alloc (.cells #[] 22)):=(Ext.refl w).alloc _;refine⟨v',rfl,?_,(he.grown m (by simp) (by intro k hk;simp[Value.ownBlock]at hk;omega))⟩
 have hp:=qab.push (xs:=[]) qaa.good (T:=S) (v:=.slice (some ⟨w.heap.size,0,none⟩) 0 0) (w:=w.alloc (.cells #[] 22)) (news:=[]) (cs:=news) (ys:=xs) rfl
  (F.out.imp λx _ cs N=>qaa.good.bel (qaa.good.mono N λb hb J=>⟨J,by simp[Value.ownBlock];omega⟩) he) (by simpa using E) m (by rw[World.size_alloc];exact ac)
 exact hp
theorem infoInta:(Tryz.prog.info? 3).map (λi=>(i.zero,i.size,i.bytes))=some (some (.int .i64 0),1,8):=by kernel_rfl
theorem cloneInt (S:Nat->Prop) (xs:List (Int)) (v:Value) (w:World) (N:RSl qad 1 S w xs [v]) (ad:xs.length*8<=140737488355328) :
  Calls Tryz.prog 250 #[v] w (ql5 qad 1 3 S xs w):=by
 obtain⟨A,c,M,hc,af,h⟩:=N;injection M with M
 subst M;have qn:∀(w:World) (a:Option Addr) (n c Y O:Nat),(binOp .eql 53 (.slice a n c) (.slice none Y O)).run Tryz.prog w = .ok (.bool a.isNone) w:=λw a n c Y O=>Lib.run_eql_slice_nil w _ _ a n c Y O Tryz.underlying53
 rcases A with _ | a
 .have V:xs=[]:=by
   rcases h with h | ⟨b,L,h,_⟩
   .exact h
   cases h
  subst V
  go_enter Tryz.func250,Tryz.ntmps250
  go_wp2
  go_ret;exact⟨_,rfl,qab.nil ..,Ext.refl _⟩
 obtain⟨news,hF,d⟩:∃news,Flat qad 1 S w xs news/\∀j u,news[j]? = some u->w.cell? (a.add j)=some u:=by
  rcases h with rfl | ⟨b,L,U,hb,hS,hr⟩
  .exact ⟨[],rfl,λj u h=>by simp at h⟩
  obtain⟨news,h1,h2⟩:=hr.flat;injection U with U
  subst U;exact⟨news,h1,λj u G=>by rw[Addr.add_lit];exact h2 j u G⟩
 obtain⟨i3,aa,D⟩:=Option.map_eq_some_iff.1 infoInta;simp only[Prod.mk.injEq]at D;obtain⟨I,ab,X⟩:=D;have F:=Hd hF;have HC:=Hd d;clear hF d h
 go_enter Tryz.func250,Tryz.ntmps250
 go_wp2_with (at_builtin;refine wpList_append_own_at _ rfl _ _ 53 rfl w.heap.size 3 i3 _ 1 8 Tryz.underlying53 aa I ab X rfl (by decide) _ _ _ rfl (World.ownsRow_made w #[] 0 (Nat.le_refl _) (Nat.zero_le _) (by simp)) a xs.length c news rfl F.out.len (λj u G=>Lib.cell?_alloc_some _ (HC.out j u G)) (F.out.one qad.good) (by unfold maxLen;omega) (by omega) (by simp) ?_)
 intro v' w1 E m ae ac
 go_wp2
 go_ret;have he:Ext w (w.alloc (.cells #[] 3)):=(Ext.refl w).alloc _;refine⟨v',rfl,?_,(he.grown m (by simp) (by intro k hk;simp[Value.ownBlock]at hk;omega))⟩
 have hp:=qab.push (xs:=[]) qad.good (T:=S) (v:=.slice (some ⟨w.heap.size,0,none⟩) 0 0) (w:=w.alloc (.cells #[] 3)) (news:=[]) (cs:=news) (ys:=xs) rfl
  (F.out.imp λx _ cs N=>qad.good.bel (qad.good.mono N λb hb J=>⟨J,by simp[Value.ownBlock];omega⟩) he) (by simpa using E) m (by rw[World.size_alloc];exact ac)
 exact hp
end
section

structure qda {α:Type} (cf:α->α->Int):Prop where
 sgn:∀x y,cf x y<0↔0<cf y x
 eq:∀x y,cf x y=0->x=y
 trans:∀x y z,cf x y<0->cf y z<0->cf x z<0
theorem qda.refl {α:Type} {cf:α->α->Int} (h:qda cf) (x:α):cf x x=0:=by
 have:=h.sgn x x;omega
theorem qda.symm {α:Type} {cf:α->α->Int} (h:qda cf) {x y:α} (e:cf x y=0):cf y x=0:=by rw[h.eq x y e];exact h.refl y
theorem qda.iff {α:Type} {cf:α->α->Int} (h:qda cf) (x y:α):cf x y=0↔x=y:=⟨h.eq x y,λe=>by rw[e];exact h.refl y⟩
theorem ordI:qda qai:={
 sgn x y:=by unfold qai;split <;> split <;> (try split) <;> (try split) <;> omega
 eq x y h:=by
  unfold qai at h
  split at h
  .omega
  split at h <;> omega
 trans x y z h1 h2:=by
  unfold qai at *
  have a:x<y:=by
   split at h1
   .assumption
   split at h1 <;> omega
  have b:y<z:=by
   split at h2
   .assumption
   split at h2 <;> omega
  rw[if_pos (by omega)]
  decide }
theorem ordL {α:Type} {cf:α->α->Int} (h:qda cf):qda (qa5 cf):={
 sgn:=by
  intro x
  induction x with
  | nil=>intro y;cases y <;> simp[qa5]
  | cons x xs ih =>
   intro y
   cases y with
   | nil=>simp[qa5]
   | cons y ys =>
    rw[qa5,qa5]
    by_cases e:cf x y=0
    .rw [if_pos e,if_pos (h.symm e)];exact ih ys
    rw[if_neg e,if_neg λm=>e (h.symm m)];exact h.sgn x y
 eq:=by
  intro x
  induction x with
  | nil=>intro y;cases y <;> simp[qa5]
  | cons x xs ih =>
   intro y
   cases y with
   | nil=>simp[qa5]
   | cons y ys =>
    rw[qa5]
    by_cases e:cf x y=0
    .rw [if_pos e];intro e2;rw[h.eq x y e,ih ys e2]
    rw[if_neg e];intro e2;exact absurd e2 e
 trans:=by
  intro x
  induction x with
  | nil=>intro y z;cases y <;> cases z <;> simp[qa5]
  | cons x xs ih =>
   intro y z
   cases y with
   | nil=>simp[qa5]
   | cons y ys =>
    cases z with
    | nil=>simp[qa5]
    | cons z zs =>
     rw[qa5,qa5,qa5]
     by_cases e1:cf x y=0
     .rw [if_pos e1,h.eq x y e1]
      by_cases e2:cf y z=0
      .rw [if_pos e2,if_pos e2];exact ih ys zs
      rw[if_neg e2,if_neg e2];exact λ_ c=>c
     rw[if_neg e1]
     by_cases e2:cf y z=0
     .rw [if_pos e2,<- h.eq y z e2,if_neg e1];exact λd _=>d
     rw[if_neg e2];intro d c;have u:=h.trans x y z d c;rw[if_neg (by omega)]
     exact u }
mutual
theorem qyh:∀x y,qb9 x y=0->x=y
 | .mk k n l,.mk k' n' l',h=>by
  rw[qb9]at h;simp only[orI]at h
  split at h
  .rename_i h1
   split at h
   .rename_i h2
    split at h
    .split at h
     .rename_i h4;rw[ordI.eq _ _ h1,ordI.eq _ _ h2,qob l l' h4]
     contradiction
    contradiction
   contradiction
  contradiction
theorem qob:∀x y,qax x y=0->x=y
 | [],[],_=>rfl
 | [],y :: ys,h=>by
  rw[qax]at h;have:=ordI.eq _ _ h;simp only[List.length_cons]at this;omega
 | x :: xs,[],h=>by rw[qax]at h;cases h
 | x :: xs,y :: ys,h=>by
  rw[qax]at h
  split at h
  .rename_i h1;rw[qyh x y h1,qob xs ys h]
  contradiction
end
mutual
def encTm:Tm->List Int
 | .mk k n l=>k :: n :: (l.length:Int) :: qe9 l
def qe9:List Tm->List Int
 | []=>[0]
 | x :: xs=>1 :: (encTm x++qe9 xs)
end
mutual
theorem enc_tm:∀x y r s,qa5 qai (encTm x++r) (encTm y++s)=if qb9 x y=0 then qa5 qai r s else qb9 x y
 | .mk k n l,.mk k' n' l',r,s=>by
  have h:=qpg l l' r s;rw[encTm,encTm,qb9];simp only[List.cons_append,qa5,orI];rw[h]
  by_cases h1:qai k k'=0 <;> by_cases h2:qai n n'=0 <;> by_cases h3:qai (l.length:Int) l'.length=0 <;> by_cases h4:qax l l'=0 <;> simp[h1,h2,h3,h4]
theorem qpg:∀x y r s,qa5 qai (qe9 x++r) (qe9 y++s)=if qax x y=0 then qa5 qai r s else qax x y
 | [],[],r,s=>by simp[qe9,qa5,qax,qai]
 | [],y :: ys,r,s=>by
  have e:qai 0 ((y :: ys).length:Int) = -1:=by unfold qai;simp only[List.length_cons];rw[if_pos (by omega)]
  rw[qax,e,qe9,qe9];simp only[List.cons_append,qa5];simp[qai]
 | x :: xs,[],r,s=>by
  rw[qax,qe9,qe9];simp only[List.cons_append,qa5];simp[qai]
 | x :: xs,y :: ys,r,s=>by
  have h:=enc_tm x y (qe9 xs++r) (qe9 ys++s);have h':=qpg xs ys r s;rw[qax,qe9,qe9];simp only[List.cons_append,qa5,List.append_assoc];rw[h,h',if_pos (by simp[qai])]
  by_cases h1:qb9 x y=0 <;> simp[h1]
end
theorem qlj (a b:Lb):qak a b=qa5 qai (a.g :: qe9 a.v) (b.g :: qe9 b.v):=by
 have h:=qpg a.v b.v [] [];simp only[List.append_nil]at h;rw[qa5,h,qak];simp only[orI,qa5]
theorem qbe:qda qak:={
 sgn x y:=by rw[qlj,qlj];exact(ordL ordI).sgn _ _
 eq x y h:=by
  rw[qak]at h;simp only[orI]at h
  split at h
  .rename_i d
   split at h
   .rename_i c
    cases x;cases y
    simp only[Lb.mk.injEq];exact⟨ordI.eq _ _ d,qob _ _ c⟩
   contradiction
  contradiction
 trans x y z:=by rw[qlj,qlj,qlj];exact(ordL ordI).trans _ _ _ }
section
variable {α:Type} {cf:α->α->Int}
def insB (cf:α->α->Int) (x:α):List α->List α
 | []=>[x]
 | y :: ys=>if cf x y<=0 then x :: y :: ys else y :: insB cf x ys
def qdi (cf:α->α->Int):List α->List α
 | []=>[]
 | x :: xs=>insB cf x (qdi cf xs)
theorem qql (x:α):∀l:List α,(insB cf x l).Perm (x :: l)
 | []=>List.Perm.refl _
 | y :: ys=>by
  rw[insB]
  split
  .exact List.Perm.refl _
  exact((qql x ys).cons y).trans (List.Perm.swap x y ys)
theorem qnp:∀l:List α,(qdi cf l).Perm l
 | []=>List.Perm.refl _
 | x :: xs=>(qql x _).trans ((qnp xs).cons x)
def Srt (cf:α->α->Int) (l:List α):Prop:=l.Pairwise λa b=>cf a b<=0
theorem quq (h:qda cf) (x:α):∀l:List α,Srt cf l->Srt cf (insB cf x l)
 | [],_=>List.pairwise_singleton _ _
 | y :: ys,hs=>by
  have m:=List.pairwise_cons.1 hs;rw[insB]
  split
  .rename_i d;refine List.pairwise_cons.2 ⟨λz c=>?_,hs⟩
   rcases List.mem_cons.1 c with rfl | c
   .exact d
   have u:=m.1 z c
   by_cases e1:cf x y=0
   .rw [h.eq x y e1];exact u
   by_cases e2:cf y z=0
   .rw [<- h.eq y z e2];exact d
   exact Int.le_of_lt (h.trans x y z (by omega) (by omega))
  rename_i d;refine List.pairwise_cons.2 ⟨λz c=>?_,quq h x ys m.2⟩
  rcases List.mem_cons.1 ((qql x ys).mem_iff.1 c)with rfl | c
  .have:=(h.sgn y z).2 (by omega);omega
  exact m.1 z c
theorem qid (h:qda cf):∀l:List α,Srt cf (qdi cf l)
 | []=>List.Pairwise.nil
 | x :: xs=>quq h x _ (qid h xs)
theorem qqp (h:qda cf):∀{l d:List α},l.Perm d->Srt cf l->Srt cf d->l=d
 | [],d,hp,_,_=>(List.Perm.nil_eq hp)
 | a :: l,[],hp,_,_=>absurd hp.length_eq (by simp)
 | a :: l,b :: d,hp,h1,h2=>by
  have c:=List.pairwise_cons.1 h1;have m:=List.pairwise_cons.1 h2
  have u:a=b:=by
   rcases List.mem_cons.1 (hp.mem_iff.1 (List.mem_cons_self ..))with e | D
   .exact e
   rcases List.mem_cons.1 (hp.mem_iff.2 (List.mem_cons_self ..))with e | A
   .exact e.symm
   have F:=c.1 b A;have E:=m.1 a D;have:=h.sgn b a;have:=h.sgn a b;exact h.eq a b (by omega)
  subst u;rw[qqp h (List.Perm.cons_inv hp) c.2 m.2]
theorem qrt (h:qda cf) {l c:List α} (d:c.Perm l) (hs:Srt cf c):c=qdi cf l:=qqp h (d.trans (qnp l).symm) hs (qid h l)
theorem qnu (l:List α):(qdi cf l).length=l.length:=(qnp l).length_eq
theorem qhr (l:List α) (x:α):x∈qdi cf l↔x∈l:=(qnp l).mem_iff
end
end
section
open Go.Shelf Go.Sort
def insI (x:Int):List Int->List Int
 | []=>[x]
 | y :: ys=>if x<=y then x :: y :: ys else y :: insI x ys
def qdp:List Int->List Int
 | []=>[]
 | x :: xs=>insI x (qdp xs)
theorem qp2 (x:Int):∀l:List Int,(insI x l).Perm (x :: l)
 | []=>List.Perm.refl _
 | y :: ys=>by
  rw[insI]
  split
  .exact List.Perm.refl _
  exact((qp2 x ys).cons y).trans (List.Perm.swap x y ys)
theorem qh6:∀xs:List Int,(qdp xs).Perm xs
 | []=>List.Perm.refl _
 | x :: xs=>(qp2 x (qdp xs)).trans ((qh6 xs).cons x)
theorem qrr (x:Int):∀l:List Int,l.Pairwise (· <= ·)->(insI x l).Pairwise (· <= ·)
 | [],_=>List.pairwise_singleton _ _
 | y :: ys,h=>by
  rw[insI];have d:=List.pairwise_cons.1 h
  split
  .rename_i m;exact List.pairwise_cons.2 ⟨λz c=>(List.mem_cons.1 c).elim (λe=>e ▸ m) λc=>Int.le_trans m (d.1 z c),h⟩
  rename_i m;refine List.pairwise_cons.2 ⟨λz c=>?_,qrr x ys d.2⟩
  rcases List.mem_cons.1 ((qp2 x ys).mem_iff.1 c)with rfl | c
  .omega
  exact d.1 z c
theorem qjf:∀xs:List Int,(qdp xs).Pairwise (· <= ·)
 | []=>List.Pairwise.nil
 | x :: xs=>qrr x _ (qjf xs)
theorem sortI_eq (xs:List Int):qdp xs=xs.mergeSort λx y=>decide (x<=y):=by
 have h:=List.pairwise_mergeSort (le:=λx y:Int=>decide (x<=y)) (λa b c m d=>by simp at *;omega) (λa b=>by simp;omega) xs;exact List.Perm.eq_of_pairwise (le:=(· <= ·)) (λa b _ _ m d=>Int.le_antisymm m d) (qjf xs) (h.imp λ{a b} h=>by simpa using h) ((qh6 xs).trans (List.mergeSort_perm _ _).symm)
theorem qnw (xs:List Int):(qdp xs).length=xs.length:=(qh6 xs).length_eq
theorem qi7 (xs:List Int) (x:Int):x∈qdp xs↔x∈xs:=(qh6 xs).mem_iff
theorem Flat.ints {S:Nat->Prop} {w:World}:∀{xs:List Int} {cs:List Value},Flat qad 1 S w xs cs->cs=xs.map (Value.int .i64)/\∀x∈xs,I64 x
 | [],cs,h=>⟨h,by simp⟩
 | x :: xs,cs,⟨c1,c2,h1,h2,h3,h4⟩=>by
  obtain⟨rfl,c⟩:=h3;obtain⟨rfl,hi⟩:=h4.ints;exact⟨h1,λy hy=>(List.mem_cons.1 hy).elim (λe=>e ▸ c) (hi y)⟩
theorem Flat.of_ints {S:Nat->Prop} {w:World}:∀{xs:List Int},(∀x∈xs,I64 x)->Flat qad 1 S w xs (xs.map (Value.int .i64))
 | [],_=>rfl
 | x :: xs,h=>⟨[.int .i64 x],_,rfl,rfl,⟨rfl,h x (by simp)⟩,Flat.of_ints λy hy=>h y (by simp[hy])⟩
theorem qpk (base:Nat) (T:Nat->Prop) (xs:List Int) (v:Value) (w:World) (u:qab qad 1 3 base T w xs v) (m:xs.length<4611686018427387904) :
  Calls Tryz.prog 59 #[v] w λe w'=>e = .returned (.tuple #[])/\qab qad 1 3 base T w' (qdp xs) v/\Bt (λb=>v.ownBlock=some b) w w':=by
 obtain⟨news,⟨N,c⟩,I⟩:=u;obtain⟨rfl,hi⟩:=I.ints
 rcases c with⟨rfl,c⟩ | ⟨g,d,A,rfl,G,D,J,M,hs,F⟩
 .have:xs=[]:=List.length_eq_zero_iff.1 c;subst this;refine(Any.slices_Sort_int_none Tryz.lays189 none 0 w).mono ?_;rintro e w' ⟨rfl,rfl⟩;exact⟨rfl,(qab.nil ..),Bt.refl _ _⟩
 have E:A.toList.take xs.length=xs.map (Value.int .i64):=by rw[<- F,Nat.mul_one]
 refine(Any.slices_Sort_int Tryz.lays189 g 0 d xs w (holds_of_blockI D E) (Array.getElem?_eq_some_iff.1 D).1 m).mono ?_;rintro e w' ⟨rfl,n,os,rfl⟩;rw[sortI_eq];refine⟨rfl,⟨(xs.mergeSort λx y=>decide (x<=y)).map (Value.int .i64),?_,Flat.of_ints λx u=>hi x (List.mem_mergeSort.1 u)⟩,(Bt.of_grown (grownBy_sortedI _)).mono λk _ L=>by cases L;rfl⟩;have:=ownsRow_sortedI (n:=n) (os:=os) (ts:=xs.mergeSort λx y=>decide (x<=y)) (List.length_mergeSort xs) G D J M hs;rw[List.length_mergeSort];exact this
end
section
open Go.Shelf
mutual
def qgb:Tm->List UInt8
 | .mk _ n l=>UInt8.ofNat n.toNat :: UInt8.ofNat l.length :: qbu l
def qbu:List Tm->List UInt8
 | []=>[]
 | x :: xs=>qgb x++qbu xs
end
def keyLb (x:Lb):List UInt8:=UInt8.ofNat (x.g+4).toNat :: UInt8.ofNat x.v.length :: qbu x.v
theorem keyTm_eq (t:Tm):qgb t=UInt8.ofNat t.n.toNat :: UInt8.ofNat t.l.length :: qbu t.l:=by cases t;rw[qgb];rfl
mutual
theorem keyTm_len:∀t:Tm,(qgb t).length=2*t.size
 | .mk _ n l=>by rw[qgb,List.length_cons,List.length_cons,qpl l,Tm.size];omega
theorem qpl:∀l:List Tm,(qbu l).length=2*Tm.sizes l
 | []=>by rw[qbu,Tm.sizes];rfl
 | x :: xs=>by rw[qbu,List.length_append,keyTm_len x,qpl xs,Tm.sizes];omega
end
theorem byte_of {n:Int} (d:0<=n) (c:n<256):((UInt8.ofNat n.toNat).toNat:Int)=n:=by
 rw[UInt8.toNat_ofNat'];omega
theorem qmg {a b:Nat} (d:a<256) (c:b<256) (h:UInt8.ofNat a=UInt8.ofNat b):a=b:=by
 have:=congrArg UInt8.toNat h;rw[UInt8.toNat_ofNat',UInt8.toNat_ofNat']at this;omega
mutual
theorem keyTm_inj:∀(x y:Tm) (r s:List UInt8),qbn x=true->qbn y=true->qgb x++r=qgb y++s->x=y/\r=s
 | .mk k n l,.mk k' n' l',r,s,h,h',e=>by
  rw[qbn]at h h';simp only[Bool.and_eq_true,decide_eq_true_eq]at h h';rw[qgb,qgb]at e;simp only[List.cons_append,List.cons.injEq]at e;have e1:=qmg (by omega) (by omega) e.1;have e2:=qmg (by omega) (by omega) e.2.1;have e3:=qol l l' r s h.2 h'.2 e2 e.2.2;have e4:n=n':=by omega
  have e5:k=k':=by omega
  rw[e3.1,e4,e5];exact⟨rfl,e3.2⟩
theorem qol:∀(x y:List Tm) (r s:List UInt8),qd7 x=true->qd7 y=true->x.length=y.length->qbu x++r=qbu y++s->x=y/\r=s
 | [],[],r,s,_,_,_,e=>⟨rfl,by simpa[qbu]using e⟩
 | [],_ :: _,_,_,_,_,h,_=>by simp at h
 | _ :: _,[],_,_,_,_,h,_=>by simp at h
 | x :: xs,y :: ys,r,s,h,h',hl,e=>by
  rw[qd7,Bool.and_eq_true]at h h';rw[qbu,qbu,List.append_assoc,List.append_assoc]at e;have e1:=keyTm_inj x y _ _ h.1 h'.1 e;have e2:=qol xs ys r s h.2 h'.2 (by simpa using hl) e1.2;rw[e1.1,e2.1];exact⟨rfl,e2.2⟩
end
theorem qp3:∀{l:List Tm},(∀t∈l,qbn t=true)->qd7 l=true
 | [],_=>rfl
 | x :: xs,h=>by rw[qd7,h x (by simp),qp3 λt c=>h t (by simp[c])];rfl
theorem qnd {t:Tm} (h:qbn t=true):0<=t.n/\t.n<256/\t.l.length<=8/\∀x∈t.l,qbn x=true:=by
 rw[allV_eq]at h;simp only[Bool.and_eq_true,decide_eq_true_eq,Bool.not_eq_true',List.any_eq_false]at h;exact⟨h.1.1.1.2,h.1.1.2,h.1.2,λx c=>by simpa using h.2 x c⟩
theorem qnv {x:Lb} (h:qa0 x=true) : -3<=x.g/\x.g<32/\x.v.length<=8/\∀t∈x.v,qbn t=true:=by
 unfold qa0 at h;simp only[Bool.not_eq_true',Bool.or_eq_false_iff,decide_eq_false_iff_not,List.any_eq_false]at h;refine⟨by omega,by omega,by omega,λt c=>?_⟩;have:=h.2 t c
 cases d:qbn t with
 | true=>rfl
 | false=>exact absurd (by simp[isV,d]) this
theorem keyLb_inj {x y:Lb} (h:qa0 x=true) (d:qa0 y=true) (e:keyLb x=keyLb y):x=y:=by
 have c:=qnv h;have hy:=qnv d;simp only[keyLb,List.cons.injEq]at e;have e1:=qmg (by omega) (by omega) e.1;have e2:=qmg (by omega) (by omega) e.2.1;have e3:=(qol x.v y.v [] [] (qp3 c.2.2.2) (qp3 hy.2.2.2) e2 (by simpa using e.2.2)).1;obtain⟨g,v⟩:=x;obtain⟨m,u⟩:=y;simp only at e1 e3;rw[e3,show g=m by simp only at c hy;omega]
def qer (x:Lb):ByteArray:=⟨(keyLb x).toArray⟩
theorem keyS_inj {x y:Lb} (h:qa0 x=true) (c:qa0 y=true) (e:qer x=qer y):x=y:=by
 refine keyLb_inj h c ?_;have:=congrArg (λb:ByteArray=>b.data.toList) e;simpa[qer]using this
instance:DecidableEq Lb:=λa b=>decidable_of_iff (qak a b=0) (qbe.iff a b)
end
end Go.Proofs.YtegenalcheooeaaGreat
