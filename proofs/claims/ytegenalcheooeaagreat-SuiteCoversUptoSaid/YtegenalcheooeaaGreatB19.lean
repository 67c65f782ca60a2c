/- Of the proof of a law of the suites: Conforms, LawEval, LawSane1, LawSane0. -/
import Derived.Test.YtegenalcheooeaaGreatB02
import Derived.Test.YtegenalcheooeaaGreatB03
import Derived.Test.YtegenalcheooeaaGreatB10
import Derived.Test.YtegenalcheooeaaGreatB14
import Derived.Test.YtegenalcheooeaaGreatB15
import Derived.Test.YtegenalcheooeaaGreatB16
import Derived.Test.YtegenalcheooeaaGreatB18
set_option linter.unusedSectionVars false
set_option linter.unusedSimpArgs false
set_option linter.unusedVariables false
namespace Go.Proofs.YtegenalcheooeaaGreat
open Go.RowKit
attribute [local go_sem] cell?_exto
set_option maxHeartbeats 16000000
set_option maxRecDepth 100000
section
open Go.Shelf
theorem qun (P:Te->Prop) (s:Sy):∀(A:List Pl) (c r:List Te),(∀t∈c,P t)->c.length<=4000->(∀p∈A,∀u,qcc s p.st=some u->∀m∈u,P ⟨p.tr,m⟩)->qet s A c=some r->(∀t∈r,P t)/\r.length<=4000
 | [],c,r,h,hl,_,e=>by rw[qet]at e;injection e with e;rw[<- e];exact⟨h,hl⟩
 | p :: A,c,r,h,hl,hp,e=>by
  rw[qet]at e
  split at e
  .cases e
  rename_i u D
  split at e
  .cases e
  rename_i E;refine qun P s A _ r (λt d=>?_) (by omega) (λq G=>hp q (List.mem_cons_of_mem _ G)) e
  rcases List.mem_append.1 d with d | d
  .exact h t d
  obtain⟨m,F,rfl⟩:=List.mem_map.1 d;exact hp p (List.mem_cons_self ..) u D m F
theorem qxa (s:Sy) (d:Nat):(∀t∈qb7 (qc1 s d),t.tr.length<=d/\t.mu.length<=64/\(∀x∈t.tr,x∈s.ls)/\(∀x∈t.mu,x∈s.ls))/\(qb7 (qc1 s d)).length<=4000:=by
 cases h:qc1 s d with
 | none=>simp[qb7]
 | some r =>
  have c:=qu8 s d;unfold qc1 at h
  split at h
  .cases h
  rename_i D u;rw[u]at c
  exact qun (λt=>t.tr.length<=d/\t.mu.length<=64/\(∀x∈t.tr,x∈s.ls)/\(∀x∈t.mu,x∈s.ls)) s D [] r (by simp) (by simp) (λp J L A m I=>by
   have E:=ql1 s p.st;have F:=qpd s p.st;rw[A]at E F;have G:=c.1 p J
   exact⟨G.1,E.2 m I,G.2.1,F m I⟩) h
theorem RSl.avoid {α:Type} {R:Rdr α} {k:Nat} {S:Nat->Prop} {w:World} {g:Nat} (M:∀d n,w.cell? ⟨g,d,none⟩≠some (.int .i64 n)) {xs:List α} {v:Value} (h:RSl R k S w xs [v])
  (D:∀x∈xs,∀cs,R S w x cs->R (λb=>S b/\b≠g) w x cs/\∃n,cs[0]? = some (.int .i64 n)):RSl R k (λb=>S b/\b≠g) w xs [v]:=by
 obtain⟨A,c,N,F,E,m⟩:=h;refine⟨A,c,N,F,E,?_⟩
 rcases xs with _ | ⟨x,xs⟩
 .exact .inl rfl
 right
 rcases m with m | ⟨b,d,e,J,hs,hr⟩
 .cases m
 have u:b≠g:=by
  rintro rfl;obtain⟨⟨cs,O,G,I⟩,_⟩:=hr;obtain⟨_,n,hn⟩:=D x (List.mem_cons_self ..) cs G;exact M _ n (I 0 _ hn)
 exact⟨b,d,e,J,⟨hs,u⟩,hr.imp (λy hy cs L=>(D y hy cs L).1) rfl⟩
theorem RTm.avoid {w:World} {g:Nat} (D:∀c n,w.cell? ⟨g,c,none⟩≠some (.int .i64 n)):∀(t:Tm),∀{S:Nat->Prop} {cs},RTm S w t cs->RTm (λb=>S b/\b≠g) w t cs:=by
 refine Tm.ind λt ih S cs h=>?_
 obtain⟨m,A,v,rfl,E⟩:=(qa6 ..).1 h;exact(qa6 ..).2 ⟨m,A,v,rfl,E.avoid D λx F cs d=>⟨ih x F d,by obtain⟨_,_,u,rfl,_⟩:=(qa6 ..).1 d;exact⟨_,rfl⟩⟩⟩
theorem qaa.avoid {S:Nat->Prop} {w:World} {g:Nat} (d:∀m n,w.cell? ⟨g,m,none⟩≠some (.int .i64 n)) {xs:List Lb} {v:Value} (h:qaa S w xs [v]):qaa (λb=>S b/\b≠g) w xs [v] :=
 RSl.avoid d h λx _ cs c=>by
  obtain⟨A,u,rfl,D⟩:=c;exact⟨⟨A,u,rfl,D.avoid d λy _ cs c=>⟨RTm.avoid d y c,by obtain⟨_,_,u,rfl,_⟩:=(qa6 ..).1 c;exact⟨_,rfl⟩⟩⟩,_,rfl⟩
theorem qli (S:Nat->Prop) (w:World):RTe S w ⟨[],[]⟩ [.slice none 0 0,.slice none 0 0]:=⟨_,_,rfl,⟨none,0,rfl,Nat.le_refl _,by decide,.inl rfl⟩,⟨none,0,rfl,Nat.le_refl _,by decide,.inl rfl⟩⟩
theorem qw8 {d:Func} {a p b:Tmp} (h:d.results = #[.tmp a,.cell p 40,.tmp b]) (tmps:Array Value) (w:World) (g:Nat) (v u:Value) (D:tmps.getD p undef = .pointer (some ⟨g,0,none⟩)) (m:w.cell? ⟨g,0,none⟩=some v) (A:w.cell? ⟨g,1,none⟩=some u) :
  (results d tmps).run Tryz.prog w = .ok (.tuple #[tmps.getD a undef,.agg #[v,u],tmps.getD b undef]) w:=by
 have c:tmps[p]?.getD undef = .pointer (some ⟨g,0,none⟩):=by simpa using D
 simp[results,h,c,asAddr,go_sem,m,A]
theorem two_set (w:World) (g:Nat) (v u a b:Value) (c:w.cell? ⟨g,0,none⟩=some a) (d:w.cell? ⟨g,1,none⟩=some b) :
  ((w.setCell ⟨g,0,none⟩ v).setCell ⟨g,1,none⟩ u).cell? ⟨g,0,none⟩=some v/\((w.setCell ⟨g,0,none⟩ v).setCell ⟨g,1,none⟩ u).cell? ⟨g,1,none⟩=some u:=by
 constructor <;> go_simp
theorem qj1 {w d:World} {a b c x y z:Value} (m:Ext (((w.alloc (.cells #[a,b,c] 25)).alloc (.cells #[x,y,z] 25)).alloc (.cells #[.slice none 0 0,.slice none 0 0] 40)) d) :
  (d.cell? ⟨w.heap.size+1+1,0,none⟩=some (.slice none 0 0)/\d.cell? ⟨w.heap.size+1+1,1,none⟩=some (.slice none 0 0)/\d.frozen? ⟨w.heap.size+1+1,0,none⟩=false/\d.frozen? ⟨w.heap.size+1+1,1,none⟩=false) /\
  (d.cell? ⟨w.heap.size+1,0,none⟩=some x/\d.cell? ⟨w.heap.size+1,1,none⟩=some y/\d.cell? ⟨w.heap.size+1,2,none⟩=some z)/\(d.cell? ⟨w.heap.size,0,none⟩=some a/\d.cell? ⟨w.heap.size,1,none⟩=some b/\d.cell? ⟨w.heap.size,2,none⟩=some c)/\Ext w d/\w.heap.size+3<=d.heap.size :=
 ⟨⟨Ext.keep m (by go_simp),Ext.keep m (by go_simp),qdy m (by simp) (by go_simp),qdy m (by simp) (by go_simp)⟩,⟨Ext.keep m (by go_simp),Ext.keep m (by go_simp),Ext.keep m (by go_simp)⟩,⟨Ext.keep m (by go_simp),Ext.keep m (by go_simp),Ext.keep m (by go_simp)⟩,bel,by have:=m.size;simp at this;omega⟩
theorem qha {W W':World} {p q:Addr} {u v:Value} (h:Ext W W') (c:W.cell? p=some u) (d:W.cell? q=some v) (m:W.frozen? p=false) (A:W.frozen? q=false):W'.cell? p=some u/\W'.cell? q=some v/\W'.frozen? p=false/\W'.frozen? q=false :=
 ⟨Ext.keep h c,Ext.keep h d,qdy h (World.block_lt_of_cell? _ _ c) m,qdy h (World.block_lt_of_cell? _ _ d) A⟩
open Classical in
noncomputable def qeg (s k:Sy) (d:Int):Int:=if qah s then (if qah k then (if 0<=d/\d<=8 then errO (qc1 s d.toNat) else 1) else 8) else 8
def qia (s k:Sy) (d:Int):Int:=qbd (qbz k) (qb7 (qc1 s d.toNat))
noncomputable def qes (s k:Sy) (d:Int):Bool:=decide (qeg s k d=0) && decide (qia s k d<0)
noncomputable def qep (s k:Sy) (d:Int):Te:=if qeg s k d=0/\0<=qia s k d then (qb7 (qc1 s d.toNat)).getD (qia s k d).toNat ⟨[],[]⟩ else ⟨[],[]⟩
def qth (b:Bool) (t:Te) (err:Int) (w:World) (e:Ending) (w':World):Prop:=∃v u,e = .returned (.tuple #[.bool b,.agg #[v,u],.int .i64 err])/\RTe (λ_=>True) w' t [v,u]/\Ext w w'
theorem qjn {A:Func} {a p b:Tmp} {tmps:Array Value} {w W:World} {g:Nat} {v u x y:Value} {m:Bool} {t:Te} {c:Int} (h:A.results = #[.tmp a,.cell p 40,.tmp b]) (L:tmps.getD p undef = .pointer (some ⟨g,0,none⟩))
  (J:tmps.getD a undef = .bool m) (d:tmps.getD b undef = .int .i64 c) (E:w.heap.size<=g) (I:Ext w W) (F:W.cell? ⟨g,0,none⟩=some x) (G:W.cell? ⟨g,1,none⟩=some y) (M:RTe (λb=>b≠g) W t [v,u]) :
  bodyPost Tryz.prog A (qth m t c w) .ret { tmps:=tmps,defers:=[] } ((W.setCell ⟨g,0,none⟩ v).setCell ⟨g,1,none⟩ u):=by
 have D:=two_set W g v u x y F G;refine bodyPost_ret (qw8 h tmps _ g v u L D.1 D.2) rfl ⟨v,u,by rw[J,d],?_,(I.set E _).set E _⟩;refine RTe.good.mono (RTe.good.move M ?_) λ_ _ _=>trivial
 have d:Bt (λq=>q=g) W ((W.setCell ⟨g,0,none⟩ v).setCell ⟨g,1,none⟩ u):=Bt.set (Z:=λq=>q=g) (p:=⟨g,1,none⟩) (Bt.set (Z:=λq=>q=g) (p:=⟨g,0,none⟩) (Bt.refl _ _) (.inr rfl) v) (.inr rfl) u;exact d.kp λk _ h=>h
theorem qse (S:Nat->Prop) (s k:Sy) (aF:qfk s) (cs ck:List Value) (d:Int) (w:World) (hx:RSy S w s cs) (hy:RSy S w k ck) :
  Calls Tryz.prog 29 #[.agg cs.toArray,.agg ck.toArray,.int .i64 d] w (qth (qes s k d) (qep s k d) (qeg s k d) w):=by
 obtain⟨_,vl,ve,rfl,aw,av⟩:=id hx;obtain⟨Al,cl,rfl,_,_⟩:=aw.val;obtain⟨Ae,ce,rfl,_,_⟩:=av.val;obtain⟨_,aJ,aI,rfl,ak,aj⟩:=id hy;obtain⟨Al2,aA,rfl,_,_⟩:=ak.val;obtain⟨Ae2,az,rfl,_,_⟩:=aj.val;have HX:=Hd hx;have HY:=Hd hy;clear hx aw av hy ak aj
 by_cases ac:qah s
 case neg =>
  have M:=λW (hW:Ext w W)=>qij _ s _ W (RSy.good.bel HX.out hW) ac
  have E:qeg s k d=8:=if_neg ac;have J:=Hd (And.intro E (And.intro (show qes s k d=false from by rw[qes,E];rfl) (show qep s k d=⟨[],[]⟩ from by rw[qep,if_neg];rw[E];simp)));clear E
  go_enter Tryz.func29,Tryz.ntmps29
  go_wp2_with fail
  refine(M _ bel).mono ?_;rintro e w1 ⟨rfl,U⟩;obtain⟨⟨u,D,G,I⟩,_,_,m,_⟩:=qj1 U
  go_wp2_with fail
  rw[J.out.1,J.out.2.1,J.out.2.2];refine qjn (a:=6) (p:=7) (b:=8) ?_ ?_ ?_ ?_ (by omega) m u D (qli ..) <;> rfl
 have M:=λW (hW:Ext w W)=>qhj S s _ W (RSy.good.bel HX.out hW) ac
 by_cases O:qah k
 case neg =>
  have F:=λW (hW:Ext w W)=>qij S k _ W (RSy.good.bel HY.out hW) O
  have E:qeg s k d=8:=by rw[qeg,if_pos ac,if_neg O]
  have J:=Hd (And.intro E (And.intro (show qes s k d=false from by rw[qes,E];rfl) (show qep s k d=⟨[],[]⟩ from by rw[qep,if_neg];rw[E];simp)));clear E
  go_enter Tryz.func29,Tryz.ntmps29
  go_wp2_with fail
  refine(M _ bel).mono ?_;rintro e w1 ⟨g,rfl,U,V,hS⟩;obtain⟨⟨u,D,G,I⟩,⟨k0,k1,k2⟩,_,m,_⟩:=qj1 U;clear U hS
  go_wp2_with fail
  refine(F _ m).mono ?_;rintro e w2 ⟨rfl,N⟩;obtain⟨u,D,G,I⟩:=qha N u D G I
  go_wp2_with fail
  rw[J.out.1,J.out.2.1,J.out.2.2];refine qjn (a:=6) (p:=7) (b:=8) ?_ ?_ ?_ ?_ (by omega) (m.trans' N) u D (qli ..) <;> rfl
 have F:=λW (hW:Ext w W)=>qhj S k _ W (RSy.good.bel HY.out hW) O
 by_cases hd:0<=d/\d<=8
 case neg =>
  have E:qeg s k d=1:=by rw[qeg,if_pos ac,if_pos O,if_neg hd]
  have J:=Hd (And.intro E (And.intro (show qes s k d=false from by rw[qes,E];rfl) (show qep s k d=⟨[],[]⟩ from by rw[qep,if_neg];rw[E];simp)));clear E
  rcases(show d<0\/(0<=d/\8<d) by omega)with hd | hd
  all_goals
   go_enter Tryz.func29,Tryz.ntmps29
   go_wp2_with fail
   refine(M _ bel).mono ?_;rintro e w1 ⟨g,rfl,U,V,hS⟩;obtain⟨⟨u,D,G,I⟩,⟨k0,k1,k2⟩,_,m,ao⟩:=qj1 U;have HS:=Hd (hS.mono (S':=λ_=>True) λ_ _ _=>trivial);clear U hS V
   go_wp2_with fail
   refine(F _ m).mono ?_;rintro e w2 ⟨g2,rfl,N,Y,L⟩;obtain⟨u,D,G,I⟩:=qha N u D G I;have ah:=Hd (L.mono (S':=λ_=>True) λ_ _ _=>trivial);have ap:=N.size;clear Y L
   go_wp2_with fail
   rw[J.out.1,J.out.2.1,J.out.2.2];refine qjn (a:=6) (p:=7) (b:=8) ?_ ?_ ?_ ?_ (by omega) (m.trans' N) u D (qli ..) <;> rfl
 obtain⟨aq,aE⟩:=hd;have E:qeg s k d=errO (qc1 s d.toNat):=by rw[qeg,if_pos ac,if_pos O,if_pos ⟨aq,aE⟩]
 have aa:=λW g (V:qaz (λ_=>True) W g s)=>qwu (λ_=>True) s ac aF g d.toNat W V (by omega)
 rw[Int.toNat_of_nonneg aq]at aa;have ae:=qxa s d.toNat
 cases af:qc1 s d.toNat with
 | none =>
  rw[af]at aa E;have J:=Hd (And.intro (show qeg s k d=2 from E) (And.intro (show qes s k d=false from by rw[qes,E];rfl) (show qep s k d=⟨[],[]⟩ from by rw[qep,if_neg];rw[E];simp[errO])));have ad:∀W g,qaz (λ_=>True) W g s->Calls Tryz.prog 88 #[.pointer (some ⟨g,0,none⟩),.int .i64 d] W λe w'=>∃A c,e = .returned (.tuple #[.slice A 0 c,.int .i64 2])/\qab RTe 2 40 W.heap.size (λ_=>True) w' [] (.slice A 0 c)/\Ext W w':=λW g V=>(aa W g V).mono λ_ _ h=>h
  clear E af aa ae
  go_enter Tryz.func29,Tryz.ntmps29
  go_wp2_with fail
  refine(M _ bel).mono ?_;rintro e w1 ⟨g,rfl,U,V,hS⟩;obtain⟨⟨u,D,G,I⟩,⟨k0,k1,k2⟩,_,m,ao⟩:=qj1 U;have HS:=Hd (hS.mono (S':=λ_=>True) λ_ _ _=>trivial);clear U hS V
  go_wp2_with fail
  refine(F _ m).mono ?_;rintro e w2 ⟨g2,rfl,N,Y,L⟩;obtain⟨u,D,G,I⟩:=qha N u D G I;have ah:=Hd (L.mono (S':=λ_=>True) λ_ _ _=>trivial);have ap:=N.size;clear Y L
  go_wp2_with fail
  refine(ad _ g (HS.out.bel N)).mono ?_;rintro e w3 ⟨A3,c3,rfl,ab,h3⟩;obtain⟨u,D,G,I⟩:=qha h3 u D G I;clear ab
  go_wp2_with fail
  rw[J.out.1,J.out.2.1,J.out.2.2];refine qjn (a:=6) (p:=7) (b:=8) ?_ ?_ ?_ ?_ (by omega) (m.trans' (N.trans' h3)) u D (qli ..) <;> rfl
 | some ts =>
  rw[af]at aa E ae;have hI:qia s k d=qbd (qbz k) ts:=by rw[qia,af];rfl
  have ad:∀W g,qaz (λ_=>True) W g s->Calls Tryz.prog 88 #[.pointer (some ⟨g,0,none⟩),.int .i64 d] W λe w'=>∃A c,e = .returned (.tuple #[.slice A ts.length c,.int .i64 0])/\qab RTe 2 40 W.heap.size (λ_=>True) w' ts (.slice A ts.length c)/\Ext W w':=λW g V=>(aa W g V).mono λ_ _ h=>h
  have an:=λW g v (V:qaz (λ_=>True) W g k) (hv:RSl RTe 2 (λ_=>True) W ts [v])=>qoj (λ_=>True) k O g ts v W V hv (λt ht=>by have:=ae.1 t ht;exact⟨by omega,by omega⟩)
  have hb:=qmp (qbz k) ts;have hB:qes s k d=decide (qbd (qbz k) ts<0):=by rw[qes,E,hI];rfl
  have hT:qep s k d=if 0<=qbd (qbz k) ts then ts.getD (qbd (qbz k) ts).toNat ⟨[],[]⟩ else ⟨[],[]⟩:=by rw[qep,E,hI,af];simp[errO,qb7]
  obtain⟨i,hi⟩:=nm (qbd (qbz k) ts);rw[hi]at an hb hB hT;clear af aa ae hi hI
  by_cases h0:0<=i
  .obtain ⟨n,rfl⟩:∃n:Nat,i=n:=⟨i.toNat,by omega⟩
   have hn:n<ts.length:=by omega
   have J:=Hd (And.intro (show qeg s k d=0 from E) (And.intro (show qes s k d=false from by rw[hB];simp) (show qep s k d=ts[n] from by rw[hT,if_pos h0];simp[hn])));clear E hB hT
   go_enter Tryz.func29,Tryz.ntmps29
   go_wp2_with fail
   refine(M _ bel).mono ?_;rintro e w1 ⟨g,rfl,U,V,hS⟩
   have aB:w1.heap[w.heap.size+1+1]? = some (.cells #[.slice none 0 0,.slice none 0 0] 40):=(U.block _ (by simp)).trans (by
    have:=World.alloc_heap_new ((w.alloc (.cells #[.int .i64 s.n,.slice Al s.ls.length cl,.slice Ae s.es.length ce] 25)).alloc (.cells #[.int .i64 k.n,.slice Al2 k.ls.length aA,.slice Ae2 k.es.length az] 25)) (.cells #[.slice none 0 0,.slice none 0 0] 40)
    rwa [World.size_alloc,World.size_alloc]at this)
   obtain⟨⟨u,D,G,I⟩,⟨k0,k1,k2⟩,_,m,ao⟩:=qj1 U;have HS:=Hd (hS.mono (S':=λ_=>True) λ_ _ _=>trivial);clear U hS V
   go_wp2_with fail
   refine(F _ m).mono ?_;rintro e w2 ⟨g2,rfl,N,Y,L⟩;obtain⟨u,D,G,I⟩:=qha N u D G I;have ah:=Hd (L.mono (S':=λ_=>True) λ_ _ _=>trivial);have ap:=N.size;clear Y L
   go_wp2_with fail
   refine(ad _ g (HS.out.bel N)).mono ?_;rintro e w3 ⟨A3,c3,rfl,ab,h3⟩;obtain⟨u,D,G,I⟩:=qha h3 u D G I;have ai:=Hd ((RSl.good RTe.good).mono (ab.sl RTe.good (by decide)) (S':=λ_=>True) λ_ _ _=>trivial);obtain⟨b,ag,cs,he,aD,_,hl,hr,X⟩:=ai.out.get n hn;obtain rfl:=he;obtain⟨v0,v1,rfl,al,am⟩:=id hr;obtain⟨B0,d0,rfl,_,_⟩:=al.val;obtain⟨B1,d1,rfl,_,_⟩:=am.val;have a0:=X.get 0 _;have a1:=X.get 1 _;simp only[Nat.add_zero]at a0
   have au:∀ag n,w3.cell? ⟨w.heap.size+1+1,ag,none⟩≠some (.int .i64 n):=by
    intro ag n;have aC:=(h3.block _ (by omega)).trans ((N.block _ (by omega)).trans aB);rw[cell_of_row w3 _ ag _ _ _ aC]
    rcases ag with _ | _ | ag <;> simp
   have hr:=(show RTe (λb=>True/\b≠w.heap.size+1+1) w3 ts[n] _ from⟨_,_,rfl,qaa.avoid au al,qaa.avoid au am⟩)
   have HR:=Hd hr;clear ab X hl hr aD al am
   go_wp2_with fail
   refine(an _ g2 _ (ah.out.bel h3) ai.out).mono ?_;rintro e w4 ⟨rfl,h4⟩;obtain⟨u,D,G,I⟩:=qha h4 u D G I;have a0:=Ext.keep h4 a0;have a1:=Ext.keep h4 a1;have aG:w4.drew.frozen? ⟨w.heap.size+1+1,0,none⟩=false:=G;have aH:w4.drew.frozen? ⟨w.heap.size+1+1,1,none⟩=false:=I;have ax:w4.drew.cell? ⟨w.heap.size+1+1,0,none⟩=some (.slice none 0 0):=u;have ay:w4.drew.cell? ⟨w.heap.size+1+1,1,none⟩=some (.slice none 0 0):=D
   go_wp2_with fail
   go_region_with (fail)
   all_goals go_wp2_with fail
   all_goals rw[J.out.1,J.out.2.1,J.out.2.2]
   all_goals refine qjn (a:=6) (p:=7) (b:=8) ?_ ?_ ?_ ?_ (by omega) (Below.drew (m.trans' (N.trans' (h3.trans' h4)))) ax ay (RTe.good.bel (RTe.good.mono HR.out λ_ _ h=>h.2) (Below.drew h4))
   all_goals rfl
  have J:=Hd (And.intro (show qeg s k d=0 from E) (And.intro (show qes s k d=true from by rw[hB];simp;omega) (show qep s k d=⟨[],[]⟩ from by rw[hT,if_neg h0])));clear E hB hT
  go_enter Tryz.func29,Tryz.ntmps29
  go_wp2_with fail
  refine(M _ bel).mono ?_;rintro e w1 ⟨g,rfl,U,V,hS⟩;obtain⟨⟨u,D,G,I⟩,⟨k0,k1,k2⟩,_,m,ao⟩:=qj1 U;have HS:=Hd (hS.mono (S':=λ_=>True) λ_ _ _=>trivial);clear U hS V
  go_wp2_with fail
  refine(F _ m).mono ?_;rintro e w2 ⟨g2,rfl,N,Y,L⟩;obtain⟨u,D,G,I⟩:=qha N u D G I;have ah:=Hd (L.mono (S':=λ_=>True) λ_ _ _=>trivial);have ap:=N.size;clear Y L
  go_wp2_with fail
  refine(ad _ g (HS.out.bel N)).mono ?_;rintro e w3 ⟨A3,c3,rfl,ab,h3⟩;obtain⟨u,D,G,I⟩:=qha h3 u D G I;have ai:=Hd ((RSl.good RTe.good).mono (ab.sl RTe.good (by decide)) (S':=λ_=>True) λ_ _ _=>trivial);clear ab
  go_wp2_with fail
  refine(an _ g2 _ (ah.out.bel h3) ai.out).mono ?_;rintro e w4 ⟨rfl,h4⟩;obtain⟨u,D,G,I⟩:=qha h4 u D G I
  go_wp2_with fail
  rw[J.out.1,J.out.2.1,J.out.2.2];refine qjn (a:=6) (p:=7) (b:=8) ?_ ?_ ?_ ?_ (by omega) (m.trans' (N.trans' (h3.trans' h4))) u D (qli ..) <;> rfl
end
section
open Go.Sort
def lbg (g:Int):Lb:=⟨g,[]⟩
def ar (f g t:Int):Ar:=⟨f,lbg g,t⟩
def as4:List Ar:=[ar 0 0 1,ar 1 1 0,ar 1 2 0]
def as5:List Ar:=[ar 0 0 1,ar 0 0 2,ar 1 1 0,ar 2 2 0]
def sy4:Sy:=⟨2,[lbg 0,lbg 1,lbg 2],[⟨0,0,1⟩,⟨1,1,0⟩,⟨1,2,0⟩]⟩
def sy5:Sy:=⟨3,[lbg 0,lbg 1,lbg 2],[⟨0,0,1⟩,⟨0,0,2⟩,⟨1,1,0⟩,⟨2,2,0⟩]⟩
theorem add4:qas as4 [] []=([lbg 0,lbg 1,lbg 2],[⟨0,0,1⟩,⟨1,1,0⟩,⟨1,2,0⟩]):=by rfl
theorem add5:qas as5 [] []=([lbg 0,lbg 1,lbg 2],[⟨0,0,1⟩,⟨0,0,2⟩,⟨1,1,0⟩,⟨2,2,0⟩]):=by rfl
theorem e1:qao sy5 [lbg 0]=[1,2]:=by decide +kernel
theorem e2:qcl sy5 [1,2] [lbg 1]=true:=by decide +kernel
theorem e3:qcl sy5 [1,2] [lbg 1,lbg 2]=false:=by decide +kernel
theorem e4:qf9 sy5 ⟨[lbg 0],[lbg 1]⟩=[1,2]:=by decide +kernel
theorem e5:qf9 sy5 ⟨[lbg 0,lbg 1],[lbg 0]⟩=[1,3]:=by decide +kernel
theorem e6:qia sy4 sy5 1=1:=by decide +kernel
theorem e7:(qd4 sy4 [⟨[lbg 0],[lbg 1]⟩]).l=[true,true,false]/\(qd4 sy4 [⟨[lbg 0],[lbg 1]⟩]).e=[true,false,false]:=by decide +kernel
theorem e8:qg2 sy4 [⟨[],[lbg 0]⟩,⟨[lbg 0],[lbg 1]⟩,⟨[lbg 0],[lbg 2]⟩]=[1,2]:=by decide +kernel
theorem m1:qcc sy4 (qao sy4 [lbg 0])=some [[lbg 1],[lbg 2]]:=by decide +kernel
theorem m2:qcc sy5 (qao sy5 [lbg 0])=some [[lbg 1,lbg 2]]:=by decide +kernel
instance:DecidableEq Te:=λa b=>decidable_of_iff (a.tr=b.tr/\a.mu=b.mu) (by constructor;(rintro⟨h1,h2⟩;cases a;cases b;simp_all);rintro rfl;exact⟨rfl,rfl⟩)
theorem g1:qc1 sy4 1=some [⟨[],[lbg 0]⟩,⟨[lbg 0],[lbg 1]⟩,⟨[lbg 0],[lbg 2]⟩]:=by decide +kernel
instance:DecidableEq Ed:=λa b=>decidable_of_iff (a.f=b.f/\a.l=b.l/\a.t=b.t) (by constructor;(rintro⟨h1,h2,h3⟩;cases a;cases b;simp_all);rintro rfl;exact⟨rfl,rfl,rfl⟩)
theorem ok4:qah sy4:=by
 refine⟨by decide,by decide,by decide,by decide,λj h=>?_,λj h=>?_⟩
 .have d:j<3:=h;have:j=0\/j=1\/j=2:=by omega
  rcases this with rfl | rfl | rfl
  .exact ⟨(by decide +kernel:qa0 (lbg 0)=true),λc=>absurd c (by decide)⟩
  .exact ⟨(by decide +kernel:qa0 (lbg 1)=true),λ_=>(by decide +kernel:qak (lbg 0) (lbg 1)<0)⟩
  exact⟨(by decide +kernel:qa0 (lbg 2)=true),λ_=>(by decide +kernel:qak (lbg 1) (lbg 2)<0)⟩
 have d:j<3:=h;have:j=0\/j=1\/j=2:=by omega
 rcases this with rfl | rfl | rfl
 .exact ⟨(by decide +kernel:qb8 sy4 ⟨0,0,1⟩=true),λc=>absurd c (by decide)⟩
 .exact ⟨(by decide +kernel:qb8 sy4 ⟨1,1,0⟩=true),λ_=>(by decide +kernel:qbf ⟨0,0,1⟩ ⟨1,1,0⟩<0)⟩
 exact⟨(by decide +kernel:qb8 sy4 ⟨1,2,0⟩=true),λ_=>(by decide +kernel:qbf ⟨1,1,0⟩ ⟨1,2,0⟩<0)⟩
theorem ok5:qah sy5:=by
 refine⟨by decide,by decide,by decide,by decide,λj h=>?_,λj h=>?_⟩
 .have d:j<3:=h;have:j=0\/j=1\/j=2:=by omega
  rcases this with rfl | rfl | rfl
  .exact ⟨(by decide +kernel:qa0 (lbg 0)=true),λc=>absurd c (by decide)⟩
  .exact ⟨(by decide +kernel:qa0 (lbg 1)=true),λ_=>(by decide +kernel:qak (lbg 0) (lbg 1)<0)⟩
  exact⟨(by decide +kernel:qa0 (lbg 2)=true),λ_=>(by decide +kernel:qak (lbg 1) (lbg 2)<0)⟩
 have d:j<4:=h;have:j=0\/j=1\/j=2\/j=3:=by omega
 rcases this with rfl | rfl | rfl | rfl
 .exact ⟨(by decide +kernel:qb8 sy5 ⟨0,0,1⟩=true),λc=>absurd c (by decide)⟩
 .exact ⟨(by decide +kernel:qb8 sy5 ⟨0,0,2⟩=true),λ_=>(by decide +kernel:qbf ⟨0,0,1⟩ ⟨0,0,2⟩<0)⟩
 .exact ⟨(by decide +kernel:qb8 sy5 ⟨1,1,0⟩=true),λ_=>(by decide +kernel:qbf ⟨0,0,2⟩ ⟨1,1,0⟩<0)⟩
 exact⟨(by decide +kernel:qb8 sy5 ⟨2,2,0⟩=true),λ_=>(by decide +kernel:qbf ⟨1,1,0⟩ ⟨2,2,0⟩<0)⟩
theorem build4:qcv 2 as4=sy4:=by
 unfold qcv qj8;rw[add4];have c:qc7 [lbg 0,lbg 1,lbg 2]=[lbg 0,lbg 1,lbg 2]:=by decide +kernel
 have d:qdi qbf (edR [lbg 0,lbg 1,lbg 2] [⟨0,0,1⟩,⟨1,1,0⟩,⟨1,2,0⟩])=sy4.es:=by decide +kernel
 simp only[c,d];rfl
theorem build5:qcv 3 as5=sy5:=by
 unfold qcv qj8;rw[add5];have c:qc7 [lbg 0,lbg 1,lbg 2]=[lbg 0,lbg 1,lbg 2]:=by decide +kernel
 have d:qdi qbf (edR [lbg 0,lbg 1,lbg 2] [⟨0,0,1⟩,⟨0,0,2⟩,⟨1,1,0⟩,⟨2,2,0⟩])=sy5.es:=by decide +kernel
 simp only[c,d];rfl
def t1':Te:=⟨[],[lbg 0]⟩
def t2':Te:=⟨[lbg 0],[lbg 1]⟩
def t3':Te:=⟨[lbg 0],[lbg 2]⟩
theorem v1:qeb sy5 [lbg 0]=[1,2]/\qej sy5 [lbg 0]=0:=by
 constructor
 .rw [qeb,if_pos ⟨ok5,by decide +kernel⟩];decide +kernel
 rw[qej,if_pos ok5];decide +kernel
theorem v2:qdn sy5 [lbg 0] [lbg 1]=true/\qcq sy5 [lbg 0] [lbg 1]=0:=by
 constructor
 .rw [qdn,if_pos ⟨ok5,by decide +kernel⟩];decide +kernel
 rw[qcq,if_pos ok5];decide +kernel
theorem v3:qdn sy5 [lbg 0] [lbg 1,lbg 2]=false/\qcq sy5 [lbg 0] [lbg 1,lbg 2]=0:=by
 constructor
 .rw [qdn,if_pos ⟨ok5,by decide +kernel⟩];decide +kernel
 rw[qcq,if_pos ok5];decide +kernel
theorem v4:qeu sy4 [lbg 0]=[[lbg 1],[lbg 2]]/\qf1 sy4 [lbg 0]=0:=by
 constructor
 .rw [qeu,if_pos ⟨ok4,by decide +kernel⟩,m1];rfl
 rw[qf1,if_pos ok4,if_pos (by decide +kernel),m1];rfl
theorem v5:qeu sy5 [lbg 0]=[[lbg 1,lbg 2]]/\qf1 sy5 [lbg 0]=0:=by
 constructor
 .rw [qeu,if_pos ⟨ok5,by decide +kernel⟩,m2];rfl
 rw[qf1,if_pos ok5,if_pos (by decide +kernel),m2];rfl
theorem v6:genR sy4 1=[t1',t2',t3']/\genE sy4 1=0:=by
 constructor
 .rw [genR,if_pos ⟨ok4,by decide,by decide⟩,show(1:Int).toNat=1 from rfl,g1];rfl
 rw[genE,if_pos ok4,if_pos (by decide),show(1:Int).toNat=1 from rfl,g1];rfl
theorem v7:qfo sy5 t2'=[1,2]/\qal sy5 [t2']=0:=by
 have h:qal sy5 [t2']=0:=by rw[qal,if_pos ok5];decide +kernel
 exact⟨by rw[qfo,if_pos h];decide +kernel,h⟩
theorem v8:qfo sy5 ⟨[lbg 0,lbg 1],[lbg 0]⟩=[1,3]/\qal sy5 [⟨[lbg 0,lbg 1],[lbg 0]⟩]=0:=by
 have h:qal sy5 [⟨[lbg 0,lbg 1],[lbg 0]⟩]=0:=by rw[qal,if_pos ok5];decide +kernel
 exact⟨by rw[qfo,if_pos h];decide +kernel,h⟩
theorem v9:qes sy4 sy5 1=false/\qeg sy4 sy5 1=0/\qep sy4 sy5 1=t2':=by
 have h:qeg sy4 sy5 1=0:=by rw[qeg,if_pos ok4,if_pos ok5,if_pos (by decide),show(1:Int).toNat=1 from rfl,g1];rfl
 have hi:qia sy4 sy5 1=1:=by decide +kernel
 refine⟨?_,h,?_⟩
 .rw [qes,h,hi];rfl
 rw[qep,if_pos ⟨h,by rw[hi];decide⟩,hi,show(1:Int).toNat=1 from rfl,g1];rfl
theorem v10:qes sy5 sy4 1=true/\qeg sy5 sy4 1=0:=by
 have c:qc1 sy5 1≠none:=by decide +kernel
 have h:qeg sy5 sy4 1=0:=by
  rw[qeg,if_pos ok5,if_pos ok4,if_pos (by decide),show(1:Int).toNat=1 from rfl]
  cases h:qc1 sy5 1 with
  | none=>exact absurd h c
  | some _=>rfl
 have hi:qia sy5 sy4 1<0:=by decide +kernel
 exact⟨by rw[qes,h,decide_eq_true hi];rfl,h⟩
theorem v11:qec sy4 [t2']=⟨[true,true,false],[true,false,false]⟩/\qal sy4 [t2']=0:=by
 have h:qal sy4 [t2']=0:=by rw[qal,if_pos ok4];decide +kernel
 refine⟨?_,h⟩;rw[qec,if_pos h];have c:(qd4 sy4 [t2']).l=[true,true,false]:=by decide +kernel
 have d:(qd4 sy4 [t2']).e=[true,false,false]:=by decide +kernel
 cases m:qd4 sy4 [t2'] with
 | mk l e =>
  rw[m]at c d;simp only at c d;rw[c,d]
theorem v12:qdo sy4 [t1',t2',t3']=[1,2]/\qal sy4 [t1',t2',t3']=0:=by
 have h:qal sy4 [t1',t2',t3']=0:=by rw[qal,if_pos ok4];decide +kernel
 exact⟨by rw[qdo,if_pos h];decide +kernel,h⟩
theorem v13:qdo sy4 [t2',⟨[lbg 0,lbg 1],[lbg 0]⟩,⟨[lbg 2],[lbg 0]⟩]=[1]/\qal sy4 [t2',⟨[lbg 0,lbg 1],[lbg 0]⟩,⟨[lbg 2],[lbg 0]⟩]=0:=by
 have h:qal sy4 [t2',⟨[lbg 0,lbg 1],[lbg 0]⟩,⟨[lbg 2],[lbg 0]⟩]=0:=by rw[qal,if_pos ok4];decide +kernel
 exact⟨by rw[qdo,if_pos h];decide +kernel,h⟩
end
section
open Go.Shelf
theorem qkb {α:Type} {R:Rdr α} {k:Nat} (c:Good R k) (E:0<k) {T:Nat->Prop} {W:World} {b:Nat} {e:TypeId} {xs:List α} {cs:List Value} (m:Flat R k T W xs cs) (A:∀q,T q->q<b) (D:W.heap[b]? = some (.cells cs.toArray e (0,0))) (hn:xs.length<=100000) :
  RSl R k (λ_=>True) W xs [.slice (some ⟨b,0,none⟩) xs.length xs.length]:=by
 have d:=m.len
 have h:qab R k e b T W xs (.slice (some ⟨b,0,none⟩) xs.length xs.length) :=
  ⟨cs,⟨d,.inr ⟨b,xs.length,_,rfl,Nat.le_refl _,D,Nat.le_refl _,by unfold maxLen;omega,by simpa using d,by rw[<- d,List.toList_toArray,List.take_length]⟩⟩,m.imp λx _ cs F=>c.mono F λq _ u=>⟨u,λe=>by
   simp only[Value.ownBlock,Option.some.injEq]at e;have:=A q u
   omega⟩⟩
 exact(RSl.good c).mono (h.sl c E) λ_ _ _=>trivial
theorem rlbg (S:Nat->Prop) (W:World) (g:Int) (c:I64 g):RLb S W (lbg g) [.int .i64 g,.slice none 0 0]:=⟨c,_,rfl,none,0,rfl,Nat.le_refl _,by decide,.inl rfl⟩
theorem rar (S:Nat->Prop) (W:World) (f g t:Int) (hf:I64 f) (c:I64 g) (d:I64 t):RAr S W (ar f g t) [.int .i64 f,.int .i64 g,.slice none 0 0,.int .i64 t]:=⟨hf,d,_,rfl,c,none,0,rfl,Nat.le_refl _,by decide,.inl rfl⟩
theorem flat1 {α:Type} {R:Rdr α} {k:Nat} {S:Nat->Prop} {W:World} {x:α} {cs:List Value} (h:R S W x cs) (c:cs.length=k):Flat R k S W [x] cs:=Flat.single h c
theorem qkn {α:Type} {R:Rdr α} {k:Nat} {S:Nat->Prop} {W:World} {x:α} {xs:List α} {c cs:List Value} (h:R S W x c) (d:c.length=k) (hs:Flat R k S W xs cs):Flat R k S W (x :: xs) (c++cs):=⟨c,cs,rfl,d,h,hs⟩
def lbCs:List Int->List Value
 | []=>[]
 | g :: gs=>[.int .i64 g,.slice none 0 0]++lbCs gs
theorem qwr (S:Nat->Prop) (W:World):∀c:List Int,(∀g∈c,I64 g)->Flat RLb 2 S W (c.map lbg) (lbCs c)
 | [],_=>rfl
 | g :: c,h=>qkn (rlbg S W g (h g (by simp))) rfl (qwr S W c λx d=>h x (by simp[d]))
theorem qeh {W:World} {b:Nat} (c:List Int) (h:∀g∈c,I64 g) (hn:c.length<=1000) (d:W.heap[b]? = some (.cells (lbCs c).toArray 61 (0,0))):qaa (λ_=>True) W (c.map lbg) [.slice (some ⟨b,0,none⟩) c.length c.length]:=by
 have:=qkb RLb.good (by decide) (qwr (λ_=>False) W c h) (λ_ h=>h.elim) d (by simpa using (by omega:c.length<=100000));simpa using this
def inCs (xs:List Int):List Value:=xs.map (Value.int .i64)
theorem qkw {W:World} {b:Nat} (xs:List Int) (h:∀g∈xs,I64 g) (hn:xs.length<=1000) (c:W.heap[b]? = some (.cells (inCs xs).toArray 3 (0,0))):RSl qad 1 (λ_=>True) W xs [.slice (some ⟨b,0,none⟩) xs.length xs.length] :=
 qkb qad.good (by decide) (Flat.of_ints (S:=λ_=>False) h) (λ_ h=>h.elim) c (by omega)
def boCs (xs:List Bool):List Value:=xs.map Value.bool
theorem qs4 {W:World} {b:Nat} (xs:List Bool) (hn:xs.length<=1000) (c:W.heap[b]? = some (.cells (boCs xs).toArray 4 (0,0))):RSl qac 1 (λ_=>True) W xs [.slice (some ⟨b,0,none⟩) xs.length xs.length] :=
 qkb qac.good (by decide) (qoi (λ_=>False) W xs) (λ_ h=>h.elim) c (by omega)
theorem ints_of {W:World} {base:Nat} {T:Nat->Prop} {xs:List Int} {v:Value} (h:qab qad 1 3 base T W xs v):RSl qad 1 (λ_=>True) W xs [v]:=(RSl.good qad.good).mono (h.sl qad.good (by decide)) λ_ _ _=>trivial
theorem qca (W:World) (o:Obj):(W.alloc o).heap[W.heap.size]? = some o:=World.alloc_heap_new W o
structure SanI (b1 b2 b3 b4 b5:Nat) (v4 u4 v5 u5 v6:Value) (W:World):Prop where
 x1:qaf W b1 61 [.int .i64 0,.slice none 0 0]
 x2:qaf W b2 61 [.int .i64 1,.slice none 0 0]
 x3:qaf W b3 61 [.int .i64 2,.slice none 0 0]
 x4:qaf W b4 25 [.int .i64 2,v4,u4]
 x5:qaf W b5 25 [.int .i64 3,v5,u5]
 s4:RSy (λ_=>True) W sy4 [.int .i64 2,v4,u4]
 s5:RSy (λ_=>True) W sy5 [.int .i64 3,v5,u5]
 l6:qaa (λ_=>True) W [lbg 0] [v6]
theorem SanI.ext {d m u A D:Nat} {v4 u4 v5 u5 v6:Value} {W W':World} (h:SanI d m u A D v4 u4 v5 u5 v6 W) (c:Ext W W'):SanI d m u A D v4 u4 v5 u5 v6 W' :=
 ⟨h.x1.ext c,h.x2.ext c,h.x3.ext c,h.x4.ext c,h.x5.ext c,RSy.good.bel h.s4 c,RSy.good.bel h.s5 c,qaa.good.bel h.l6 c⟩
theorem qv2 {l:List Ed} (h:(List.range (l.length-1)).all (λk=>decide (l[k+1]? ≠ l[k]?))=true):qic l:=λk c e=>by
 have:=List.all_eq_true.1 h k (List.mem_range.2 (by omega));rw[List.getElem?_eq_getElem c,List.getElem?_eq_getElem (by omega),e]at this;simp at this
theorem nd4:qic (qdi qbf (edR (qas as4 [] []).1 (qas as4 [] []).2)):=qv2 (by decide +kernel)
theorem nd5:qic (qdi qbf (edR (qas as5 [] []).1 (qas as5 [] []).2)):=qv2 (by decide +kernel)
theorem built4 (S:Nat->Prop) (v:Value) (w:World) (c:RSl RAr 4 S w as4 [v]):Calls Tryz.prog 74 #[.int .i64 2,v] w (qq3 sy4 w):=by
 have h:=built_c S 2 (by decide) as4 v w c (by decide +kernel) (by decide +kernel) (by decide) (by rw[add4];decide) nd4
 rwa [build4]at h
theorem built5 (S:Nat->Prop) (v:Value) (w:World) (c:RSl RAr 4 S w as5 [v]):Calls Tryz.prog 74 #[.int .i64 3,v] w (qq3 sy5 w):=by
 have h:=built_c S 3 (by decide) as5 v w c (by decide +kernel) (by decide +kernel) (by decide) (by rw[add5];decide) nd5
 rwa [build5]at h
theorem alloc3 (w:World) (a b c:Obj):∃W0,((w.alloc a).alloc b).alloc c=W0/\W0.heap[w.heap.size]? = some a/\W0.heap[w.heap.size+1]? = some b/\W0.heap[w.heap.size+1+1]? = some c/\Ext w W0/\W0.heap.size=w.heap.size+3:=by
 refine⟨_,rfl,?_,qg3 ..,qgy ..,(((Ext.refl w).alloc a).alloc b).alloc c,by simp⟩;rw[Below.heap_alloc _ _ _ (by simp;omega),Below.heap_alloc _ _ _ (by simp)];exact World.alloc_heap_new _ _
def arCs:List Ar->List Value
 | []=>[]
 | a :: rs=>[.int .i64 a.f,.int .i64 a.l.g,.slice none 0 0,.int .i64 a.t]++arCs rs
theorem qqg (S:Nat->Prop) (W:World):∀l:List (Int×Int×Int),(∀g∈l,I64 g.1/\I64 g.2.1/\I64 g.2.2)->Flat RAr 4 S W (l.map λg=>ar g.1 g.2.1 g.2.2) (arCs (l.map λg=>ar g.1 g.2.1 g.2.2))
 | [],_=>rfl
 | g :: gs,h=>qkn (rar S W g.1 g.2.1 g.2.2 (h g (by simp)).1 (h g (by simp)).2.1 (h g (by simp)).2.2) rfl (qqg S W gs λx c=>h x (by simp[c]))
theorem lit4 {W:World} {b:Nat} (c:W.heap[b]? = some (.cells (arCs as4).toArray 106 (0,0))):RSl RAr 4 (λ_=>True) W as4 [.slice (some ⟨b,0,none⟩) 3 3] :=
 qkb RAr.good (by decide) (qqg (λ_=>False) W [(0,0,1),(1,1,0),(1,2,0)] (by decide)) (λ_ h=>h.elim) c (by decide)
theorem lit5 {W:World} {b:Nat} (c:W.heap[b]? = some (.cells (arCs as5).toArray 106 (0,0))):RSl RAr 4 (λ_=>True) W as5 [.slice (some ⟨b,0,none⟩) 4 4] :=
 qkb RAr.good (by decide) (qqg (λ_=>False) W [(0,0,1),(0,0,2),(1,1,0),(2,2,0)] (by decide)) (λ_ h=>h.elim) c (by decide)
theorem qlk {α:Type} {R:Rdr α} {k:Nat} (c:Good R k) (u:0<k) {W:World} {e:TypeId} {xs:List α} {cs:List Value} (d:Flat R k (λ_=>True) W xs cs) (hn:xs.length<=100000) :
  RSl R k (λ_=>True) (W.alloc (.cells cs.toArray e)) xs [.slice (some ⟨W.heap.size,0,none⟩) xs.length xs.length] :=
 qkb c u (T:=λq=>q<W.heap.size) (d.imp λx _ cs A=>c.bel (c.mono A λb m _=>m) ((Ext.refl W).alloc _)) (λ_ h=>h) (qca W _) hn
theorem sm4:qfk sy4:=by unfold qfk;decide
theorem sm5:qfk sy5:=by unfold qfk;decide
end
section
open Go.Shelf
theorem qgc {P:Program} {o:Oper} {ev:Operand->Value} {w w':World} {R:Value->World->Prop} {v:Value} (h:(execOp ev o).run P w = .ok (.value v) w') (c:R v w'):vwp P o ev w R:=by unfold vwp;rw[h];exact c
theorem qv6 {P:Program} {o:Oper} {ev:Operand->Value} {w:World} {R:Value->World->Prop} {f:Nat} {args:Array Value} (h:(execOp ev o).run P w = .ok (.enter f args) w) (d:Calls P f args w λe c=>∃v,e = .returned v/\R v c):vwp P o ev w R:=by unfold vwp;rw[h];exact d
def fV (x:Value):Value->World->Prop:=λv _=>v=x
def qdd (l:List Lb):Value->World->Prop:=λv W=>qaa (λ_=>True) W l [v]
def fTe (t:Te):Value->World->Prop:=λv W=>∃x y,v = .agg #[x,y]/\RTe (λ_=>True) W t [x,y]
def fTes (ts:List Te):Value->World->Prop:=λv W=>RSl RTe 2 (λ_=>True) W ts [v]
def Mv (f:Value->World->Prop):Prop:=∀v A B,f v A->Ext A B->f v B
theorem mvV (x:Value):Mv (fV x):=λ_ _ _ h _=>h
theorem qjw (l:List Lb):Mv (qdd l):=λ_ _ _ h c=>qaa.good.bel h c
theorem mvTe (t:Te):Mv (fTe t):=λ_ _ _ ⟨x,y,h,hr⟩ c=>⟨x,y,h,RTe.good.bel hr c⟩
theorem qkh (ts:List Te):Mv (fTes ts):=λ_ _ _ h c=>(RSl.good RTe.good).bel h c
def qgv (xs:List Int):Value->World->Prop:=λv W=>RSl qad 1 (λ_=>True) W xs [v]
def qg9 (xs:List Bool):Value->World->Prop:=λv W=>RSl qac 1 (λ_=>True) W xs [v]
def qe4 (xs:List Int):Value->World->Prop:=λv W=>∃u,v = .tuple #[u,.int .i64 0]/\qgv xs u W
def qib (xs ys:List Bool):Value->World->Prop:=λv W=>∃u t,v = .tuple #[u,t,.int .i64 0]/\qg9 xs u W/\qg9 ys t W
theorem qiu (xs:List Int):Mv (qgv xs):=λ_ _ _ h c=>(RSl.good qad.good).bel h c
theorem qik (xs:List Bool):Mv (qg9 xs):=λ_ _ _ h c=>(RSl.good qac.good).bel h c
theorem qjg (xs:List Int):Mv (qe4 xs):=λ_ _ _ ⟨u,h,hr⟩ c=>⟨u,h,qiu xs _ _ _ hr c⟩
theorem qj3 (xs ys:List Bool):Mv (qib xs ys):=λ_ _ _ ⟨u,t,h,hr,hs⟩ c=>⟨u,t,h,qik xs _ _ _ hr c,qik ys _ _ _ hs c⟩
theorem mv_nil:∀f∈([]:List (Value->World->Prop)),Mv f:=by simp
theorem qj4 {f:Value->World->Prop} {l:List (Value->World->Prop)} (h:Mv f) (hs:∀f∈l,Mv f):∀g∈f :: l,Mv g:=λg c=>(List.mem_cons.1 c).elim (λe=>e ▸ h) (hs g)
section
variable {o:Oper} {ev:Operand->Value} {w:World} {R:Value->World->Prop} {x y z:Operand}
theorem qdu (d:o.op = .move x) {v:Value} (m:ev x=v) (c:R v w):vwp Tryz.prog o ev w R:=by
 refine qgc (v:=v) (w':=w) ?_ c;simp[execOp,d,m,go_sem]
theorem qh0 (d:o.op = .assign x) {v:Value} (m:ev x=v) (c:R v w):vwp Tryz.prog o ev w R:=by
 refine qgc (v:=v) (w':=w) ?_ c;simp[execOp,d,m,go_sem]
theorem vNeq (d:o.op = .binOp .neq 31 x y 31) {a b:Int} (m:ev x = .int .i64 a) (hy:ev y = .int .i64 b) (c:R (.bool (decide (a≠b))) w):vwp Tryz.prog o ev w R:=by
 refine qgc (v:=.bool (decide (a≠b))) (w':=w) ?_ c;have u:=Tryz.underlying31;simp[execOp,d,m,hy,go_sem]
 by_cases h:a=b <;> simp[h]
theorem vNot (d:o.op = .unOp .not 4 x) {b:Bool} (m:ev x = .bool b) (c:R (.bool (!b)) w):vwp Tryz.prog o ev w R:=by
 refine qgc (v:=.bool (!b)) (w':=w) ?_ c;simp[execOp,d,m,go_sem]
theorem vPick (d:o.op = .pick x y z) {b:Bool} {v u:Value} (m:ev x = .bool b) (hy:ev y=v) (A:ev z=u) (c:R (if b then v else u) w):vwp Tryz.prog o ev w R:=by
 refine qgc (v:=if b then v else u) (w':=w) ?_ c
 cases b <;> simp[execOp,d,m,hy,A,go_sem]
theorem qhl {k:Nat} (m:o.op = .extract x k) {c:Array Value} {v:Value} (A:ev x = .tuple c) (u:c[k]? = some v) (d:R v w):vwp Tryz.prog o ev w R:=by
 refine qgc (v:=v) (w':=w) ?_ d;simp[execOp,m,A,go_sem,u]
theorem qfb (A:o.op = .load 61 x) {b:Nat} {v u:Value} (D:ev x = .pointer (some ⟨b,0,none⟩)) (c:w.cell? ⟨b,0,none⟩=some v) (d:w.cell? ⟨b,1,none⟩=some u) (m:R (.agg #[v,u]) w):vwp Tryz.prog o ev w R:=by
 refine qgc (v:=.agg #[v,u]) (w':=w) ?_ m;simp[execOp,A,D,go_sem,c,d]
theorem vLoad40 (A:o.op = .load 40 x) {b:Nat} {v u:Value} (D:ev x = .pointer (some ⟨b,0,none⟩)) (c:w.cell? ⟨b,0,none⟩=some v) (d:w.cell? ⟨b,1,none⟩=some u) (m:R (.agg #[v,u]) w):vwp Tryz.prog o ev w R:=by
 refine qgc (v:=.agg #[v,u]) (w':=w) ?_ m;simp[execOp,A,D,go_sem,c,d]
theorem qm5 (D:o.op = .load 25 x) {b:Nat} {v u t:Value} (E:ev x = .pointer (some ⟨b,0,none⟩)) (c:w.cell? ⟨b,0,none⟩=some v) (d:w.cell? ⟨b,1,none⟩=some u) (m:w.cell? ⟨b,2,none⟩=some t) (A:R (.agg #[v,u,t]) w):vwp Tryz.prog o ev w R:=by
 refine qgc (v:=.agg #[v,u,t]) (w':=w) ?_ A;simp[execOp,D,E,go_sem,c,d,m]
theorem qgs (d:o.op = .buildSlice 22 1 #[(0,x)]) {v u:Value} (m:ev x = .agg #[v,u]) (c:R (.slice (some ⟨w.heap.size,0,none⟩) 1 1) (w.alloc (.cells #[v,u] 61))):vwp Tryz.prog o ev w R:=by
 refine qgc ?_ c;simp[execOp,d,m,go_sem]
theorem vLit2 (A:o.op = .buildSlice 22 2 #[(0,x),(1,y)]) {v u d c:Value} (D:ev x = .agg #[v,u]) (hy:ev y = .agg #[d,c]) (m:R (.slice (some ⟨w.heap.size,0,none⟩) 2 2) (w.alloc (.cells #[v,u,d,c] 61))):vwp Tryz.prog o ev w R:=by
 refine qgc ?_ m;simp[execOp,A,D,hy,go_sem]
theorem vTes1 (d:o.op = .buildSlice 34 1 #[(0,x)]) {v u:Value} (m:ev x = .agg #[v,u]) (c:R (.slice (some ⟨w.heap.size,0,none⟩) 1 1) (w.alloc (.cells #[v,u] 40))):vwp Tryz.prog o ev w R:=by
 refine qgc ?_ c;simp[execOp,d,m,go_sem]
theorem vTes3 (A:o.op = .buildSlice 34 3 #[(0,x),(1,y),(2,z)]) {v u d c v2 u2:Value} (D:ev x = .agg #[v,u]) (hy:ev y = .agg #[d,c]) (E:ev z = .agg #[v2,u2]) (m:R (.slice (some ⟨w.heap.size,0,none⟩) 3 3) (w.alloc (.cells #[v,u,d,c,v2,u2] 40))):vwp Tryz.prog o ev w R:=by
 refine qgc ?_ m;simp[execOp,A,D,hy,E,go_sem]
theorem qfg {f:Nat} {ts:Array TypeId} (d:o.op = .call { callee:=.value (.func f),args:=#[x,y],argTypes:=ts }) (he:∀args w,(callFunc f args).run Tryz.prog w = .ok (.enter f args) w) {v u:Value} (hx:ev x=v) (hy:ev y=u) (hev:ev (.func f) = .func (.func f) #[] #[])
  (hc:Calls Tryz.prog f #[v,u] w λe c=>∃v,e = .returned v/\R v c):vwp Tryz.prog o ev w R:=by
 refine qv6 (f:=f) (args:=#[v,u]) ?_ hc;simp[execOp,d,hx,hy,hev,go_sem,he,resolve,invoke]
theorem vCall3 {f:Nat} {ts:Array TypeId} (d:o.op = .call { callee:=.value (.func f),args:=#[x,y,z],argTypes:=ts }) (he:∀args w,(callFunc f args).run Tryz.prog w = .ok (.enter f args) w) {v u t:Value} (hx:ev x=v) (hy:ev y=u) (hz:ev z=t) (hev:ev (.func f) = .func (.func f) #[] #[])
  (hc:Calls Tryz.prog f #[v,u,t] w λe c=>∃v,e = .returned v/\R v c):vwp Tryz.prog o ev w R:=by
 refine qv6 (f:=f) (args:=#[v,u,t]) ?_ hc;simp[execOp,d,hx,hy,hz,hev,go_sem,he,resolve,invoke]
end
theorem eg76:∀args w,(callFunc 76 args).run Tryz.prog w = .ok (.enter 76 args) w:=enters_of Tryz.func76 (by kernel_rfl) rfl
theorem eg23:∀args w,(callFunc 23 args).run Tryz.prog w = .ok (.enter 23 args) w:=enters_of Tryz.func23 (by kernel_rfl) rfl
theorem eg31:∀args w,(callFunc 31 args).run Tryz.prog w = .ok (.enter 31 args) w:=enters_of Tryz.func31 (by kernel_rfl) rfl
theorem eg48:∀args w,(callFunc 48 args).run Tryz.prog w = .ok (.enter 48 args) w:=enters_of Tryz.func48 (by kernel_rfl) rfl
theorem eg53:∀args w,(callFunc 53 args).run Tryz.prog w = .ok (.enter 53 args) w:=enters_of Tryz.func53 (by kernel_rfl) rfl
theorem qhi {w:World} {D u:List Lb} {x y:Value} (m:qdd D x w) (hy:qdd u y w):Calls Tryz.prog 76 #[x,y] w λe w'=>∃v,e = .returned v/\Ext w w'/\fTe ⟨D,u⟩ v w':=by
 obtain⟨A,c,rfl,_,_⟩:=RSl.val m;obtain⟨B,d,rfl,_,_⟩:=RSl.val hy;exact(test_c _ _ A B _ _ c d rfl rfl w).mono λe w' h=>⟨_,h.1,h.2,_,_,rfl,_,_,rfl,qaa.good.bel m h.2,qaa.good.bel hy h.2⟩
theorem nil_lbs (W:World):qdd [] (.slice none 0 0) W:=⟨none,0,rfl,Nat.le_refl _,by decide,.inl rfl⟩
theorem tes3 {W:World} {a b c:Value} {s t u:Te} (G:fTe s a W) (I:fTe t b W) (J:fTe u c W):∃d D m E A F,a = .agg #[d,D]/\b = .agg #[m,E]/\c = .agg #[A,F]/\fTes [s,t,u] (.slice (some ⟨W.heap.size,0,none⟩) 3 3) (W.alloc (.cells #[d,D,m,E,A,F] 40)):=by
 obtain⟨d,D,e1,L⟩:=G;obtain⟨m,E,e2,M⟩:=I;obtain⟨A,F,e3,N⟩:=J;exact⟨d,D,m,E,A,F,e1,e2,e3,qlk RTe.good (by decide) (qkn L rfl (qkn M rfl (flat1 N rfl))) (by simp)⟩
theorem leq3:leq qj7 [t1',t2',t3'] [t1',t2',t3']=true:=by decide +kernel
theorem qv7 {r:List Int} {w w':World} {e:Ending} (h:qnn r 0 w e w'):∃v,e = .returned v/\Ext w w'/\qe4 r v w':=by
 obtain⟨A,c,rfl,d,m⟩:=h;exact⟨_,rfl,m,_,rfl,ints_of d⟩
theorem qv5 {W:World} {base:Nat} {xs:List Bool} {v:Value} (h:RBs base W xs v):qg9 xs v W:=(RSl.good qac.good).mono (h.sl qac.good (by decide)) λ_ _ _=>trivial
theorem cv_post {c:Cv} {w w':World} {e:Ending} (h:CvPost c 0 w e w'):∃v,e = .returned v/\Ext w w'/\qib c.l c.e v w':=by
 obtain⟨v1,v2,rfl,d,m,u⟩:=h;exact⟨_,rfl,u,_,_,rfl,qv5 d,qv5 m⟩
theorem qss (t:Te) (r:List Int) (hr:qfo sy5 t=r/\qal sy5 [t]=0) {W:World} {x y v u:Value} (c:RTe (λ_=>True) W t [x,y]) (hs:RSy (λ_=>True) W sy5 [.int .i64 3,v,u]) :
  Calls Tryz.prog 31 #[.agg #[x,y],.agg #[.int .i64 3,v,u]] W λe w'=>∃v,e = .returned v/\Ext W w'/\qe4 r v w':=by
 have h:=qyn (λ_=>True) sy5 _ _ t W hs c;rw[hr.1,hr.2]at h;exact h.mono λe w' h=>qv7 h
theorem qtf (ts:List Te) (r:List Int) (hr:qdo sy4 ts=r/\qal sy4 ts=0) {W:World} {x v u:Value} (c:fTes ts x W) (hs:RSy (λ_=>True) W sy4 [.int .i64 2,v,u]) :
  Calls Tryz.prog 53 #[.agg #[.int .i64 2,v,u],x] W λe w'=>∃v,e = .returned v/\Ext W w'/\qe4 r v w':=by
 have h:=qt4 (λ_=>True) sy4 _ ts x W hs c;rw[hr.1,hr.2]at h;exact h.mono λe w' h=>qv7 h
theorem cov_call {W:World} {x v u:Value} (c:fTes [t2'] x W) (hs:RSy (λ_=>True) W sy4 [.int .i64 2,v,u]) :
  Calls Tryz.prog 48 #[.agg #[.int .i64 2,v,u],x] W λe w'=>∃v,e = .returned v/\Ext W w'/\qib [true,true,false] [true,false,false] v w':=by
 have h:=qvx (λ_=>True) sy4 _ [t2'] x W hs c;rw[v11.1,v11.2]at h;exact h.mono λe w' h=>cv_post h
theorem tes1 {W:World} {a:Value} {s:Te} (m:fTe s a W):∃c d,a = .agg #[c,d]/\fTes [s] (.slice (some ⟨W.heap.size,0,none⟩) 1 1) (W.alloc (.cells #[c,d] 40)):=by
 obtain⟨c,d,e1,u⟩:=m;exact⟨c,d,e1,qlk RTe.good (by decide) (flat1 u rfl) (by simp)⟩
end
end Go.Proofs.YtegenalcheooeaaGreat
