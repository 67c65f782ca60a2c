/- Of the proof of a law of the suites: PCalm, RPlain, RPlain2, RPlain3, RPlain4, RAccepted, RHas. -/
import Derived.Test.YtegenalcheooeaaGreatAF04
import Derived.Test.YtegenalcheooeaaGreatB03
import Derived.Test.YtegenalcheooeaaGreatB16
set_option linter.unusedSectionVars false
set_option linter.unusedSimpArgs false
set_option linter.unusedVariables false
namespace Go.Proofs.YtegenalcheooeaaGreat
open Go.RowKit
attribute [local go_sem] cell?_exto
set_option maxHeartbeats 16000000
set_option maxRecDepth 100000
section

def Tau (s:Sy) (y z:Int):Prop:=∃j:Fin s.es.length,s.es[j].f=y/\qhz s s.es[j].l = -1/\s.es[j].t=z
theorem qhp (c:List Ed) (n:Int) (j:Fin c.length):j∈qay c n↔c[j].f=n:=by simp[qay,List.mem_filter,List.mem_finRange]
theorem qw5 (s:Sy) (l:List Int) (e:Ed) (z:Int):z∈qcr s l e↔z∈l\/(qhz s e.l = -1/\e.t=z):=by
 unfold qcr
 split
 .rename_i h;rw[List.mem_append,List.mem_singleton];refine or_congr_right ⟨λe=>⟨h.1,e.symm⟩,λe=>e.2.symm⟩
 rename_i h;refine⟨.inl,λg=>g.elim id λ⟨c,f⟩=>?_⟩;rw[<- f];exact Classical.byContradiction λhn=>h ⟨c,hn⟩
theorem qnk (s:Sy) (z:Int):∀(is:List (Fin s.es.length)) (l:List Int),z∈qbi s is l↔z∈l\/∃j∈is,qhz s s.es[j].l = -1/\s.es[j].t=z
 | [],l=>by simp[qbi]
 | i :: is,l=>by
  have ih:=qnk s z is (qcr s l s.es[i]);have e:qbi s (i :: is) l=qbi s is (qcr s l s.es[i]):=rfl;rw[e,ih,qw5];simp only[List.mem_cons,exists_eq_or_imp];rw[or_assoc]
theorem qsu (s:Sy):∀(is:List (Fin s.es.length)) (l:List Int),∃m,qbi s is l=l++m
 | [],l=>⟨[],by simp[qbi]⟩
 | i :: is,l=>by
  obtain⟨m,c⟩:=qsu s is (qcr s l s.es[i]);have e:qbi s (i :: is) l=qbi s is (qcr s l s.es[i]):=rfl;rw[e,c];unfold qcr
  split
  .exact ⟨_,by rw[List.append_assoc]⟩
  exact⟨m,rfl⟩
theorem qqt (s:Sy):∀(f i:Nat) (l:List Int),l.length+qb0 s l<=i+f->(∀y∈l.take i,∀z,Tau s y z->z∈l)->(∀y∈qbm s f i l,∀z,Tau s y z->z∈qbm s f i l)/\∀y∈l,y∈qbm s f i l
 | 0,i,l,hf,hc=>by
  rw[qbm];rw[List.take_of_length_le (by omega)]at hc;exact⟨hc,λy h=>h⟩
 | f+1,i,l,hf,hc=>by
  rw[qbm]
  split
  .rename_i hi;obtain⟨m,u⟩:=qsu s (qay s.es l[i]) l;have w:=(qhn s (qay s.es l[i]) l).1;have c:∀y∈l,y∈qbi s (qay s.es l[i]) l:=λy hy=>(qnk s y _ l).2 (.inl hy)
   have:=qqt s f (i+1) (qbi s (qay s.es l[i]) l) (by omega) λy hy z g=>by
    have v:(qbi s (qay s.es l[i]) l).take (i+1)=l.take i++[l[i]]:=by
     rw[u,List.take_append_of_le_length (by omega),List.take_succ_eq_append_getElem hi]
    rw[v,List.mem_append,List.mem_singleton]at hy
    rcases hy with hy | hy
    .exact c z (hc y hy z g)
    obtain⟨j,o,q,r⟩:=g;exact(qnk s z _ l).2 (.inr ⟨j,(qhp _ _ _).2 (o.trans hy),q,r⟩)
   exact⟨this.1,λy hy=>this.2 y (c y hy)⟩
  rw[List.take_of_length_le (by omega)]at hc;exact⟨hc,λy h=>h⟩
theorem qt2 (s:Sy) (R:Int->Prop) (c:∀y z,R y->Tau s y z->R z):∀(f i:Nat) (l:List Int),(∀y∈l,R y)->∀y∈qbm s f i l,R y
 | 0,i,l,hl=>by rw[qbm];exact hl
 | f+1,i,l,hl=>by
  rw[qbm]
  split
  .rename_i hi;refine qt2 s R c f (i+1) _ λy hy=>?_
   rcases(qnk s y _ l).1 hy with hy | ⟨j,q,g,o⟩
   .exact hl y hy
   exact c _ y (hl _ (List.getElem_mem hi)) ⟨j,(qhp _ _ _).1 q,g,o⟩
  exact hl
def qkf (s:Sy) (l:List Int):Prop:=∀y∈l,∀z,Tau s y z->z∈l
theorem qml (s:Sy) (l:List Int):qkf s (qa4 s l):=λy hy z c=>by
 unfold qa4 at hy ⊢;rw[qi7]at hy ⊢;exact(qqt s _ 0 l (by have:=qhe s l;omega) (by simp)).1 y hy z c
theorem qkz (s:Sy) (l:List Int) (y:Int) (hy:y∈l):y∈qa4 s l:=by
 unfold qa4;rw[qi7];exact(qqt s _ 0 l (by have:=qhe s l;omega) (by simp)).2 y hy
theorem qkj (s:Sy) (R:Int->Prop) (c:∀y z,R y->Tau s y z->R z) (l:List Int) (f:∀y∈l,R y):∀y∈qa4 s l,R y:=λy hy=>by
 unfold qa4 at hy;rw[qi7]at hy;exact qt2 s R c _ 0 l f y hy
theorem qxy (s:Sy) (x:Lb) (l:List Int) (e:Ed) (z:Int):z∈qft s x l e↔z∈l\/(qev s e.l (λy=>qat y.g && decide (qak y x=0))=true/\e.t=z):=by
 unfold qft
 split
 .rename_i h;rw[List.mem_append,List.mem_singleton];refine or_congr_right ⟨λe=>⟨h.1,e.symm⟩,λe=>e.2.symm⟩
 rename_i h;refine⟨.inl,λo=>o.elim id λ⟨c,f⟩=>?_⟩;rw[<- f];exact Classical.byContradiction λhn=>h ⟨c,hn⟩
theorem qrx (s:Sy) (x:Lb) (z:Int):∀(is:List (Fin s.es.length)) (l:List Int),z∈qce s x is l↔z∈l\/∃j∈is,qev s s.es[j].l (λy=>qat y.g && decide (qak y x=0))=true/\s.es[j].t=z
 | [],l=>by simp[qce]
 | i :: is,l=>by
  have ih:=qrx s x z is (qft s x l s.es[i]);have e:qce s x (i :: is) l=qce s x is (qft s x l s.es[i]):=rfl;rw[e,ih,qxy];simp only[List.mem_cons,exists_eq_or_imp];rw[or_assoc]
theorem qkd (s:Sy) (x:Lb) (c:List Int) (z:Int):z∈qb1 s x c↔∃j:Fin s.es.length,s.es[j].f∈c/\qev s s.es[j].l (λy=>qat y.g && decide (qak y x=0))=true/\s.es[j].t=z:=by
 have:∀(c l:List Int),z∈c.foldl (λl q=>qce s x (qay s.es q) l) l↔z∈l\/∃j:Fin s.es.length,s.es[j].f∈c/\qev s s.es[j].l (λy=>qat y.g && decide (qak y x=0))=true/\s.es[j].t=z:=by
  intro c
  induction c with
  | nil=>intro l;simp
  | cons q c ih =>
   intro l;rw[List.foldl_cons,ih,qrx,or_assoc];refine or_congr_right ⟨?_,?_⟩
   .rintro (⟨j,o,h⟩ | ⟨j,o,h⟩)
    .exact ⟨j,by rw[(qhp _ _ _).1 o];simp,h⟩
    exact⟨j,List.mem_cons_of_mem _ o,h⟩
   rintro⟨j,o,h⟩
   rcases List.mem_cons.1 o with o | o
   .exact .inl ⟨j,(qhp _ _ _).2 o,h⟩
   exact .inr ⟨j,o,h⟩
 rw[qb1,this]
 simp
theorem qpn (x y:Lb):qa8 x y=true↔x=y:=by rw[qa8,decide_eq_true_eq];exact qbe.iff x y
end
section

theorem qxl (s:Sy) (bs:List Bool):qdb s bs=marksOf s.n.toNat (qa4 s (mkL bs)):=by
 unfold qdb qa4;exact qoo λi _=>(qi7 _ _).symm
theorem qvk (s:Sy) {l c:List Int} (h:∀y∈l,y∈c):∀y∈qa4 s l,y∈qa4 s c :=
 qkj s (λy=>y∈qa4 s c) (λy z hy f=>qml s c y hy z f) l λy hy=>qkz s c y (h y hy)
theorem qus (s:Sy) {l c:List Int} (h:∀y,y∈l↔y∈c) (y:Int):y∈qa4 s l↔y∈qa4 s c :=
 ⟨qvk s (λy hy=>(h y).1 hy) y,qvk s (λy hy=>(h y).2 hy) y⟩
theorem qog (n:Nat) (l:List Int) (f:∀x∈l,0<=x/\x<n) (y:Int):y∈mkL (marksOf n l)↔y∈l:=by
 rw[qn3]
 constructor
 .rintro ⟨i,hi,c,rfl⟩;rw[qd6 hi,qfn,decide_eq_true_eq]at c;exact c
 intro hy;have:=f y hy;refine⟨y.toNat,by rw[qcg];omega,?_,by omega⟩;rw[qd6 (by rw[qcg];omega),qfn,decide_eq_true_eq,Int.toNat_of_nonneg this.1];exact hy
theorem qqw (s:Sy) (n:Nat) (hn:s.n=(n:Int)) (l:List Int) (c:∀x∈l,0<=x/\x<n):qdb s (marksOf n l)=marksOf n (qa4 s l):=by
 rw[qxl,hn,Int.toNat_natCast];exact qoo λi _=>qus s (qog n l c) _
theorem bs0_marks {n:Nat} (h:0<n):bs0 n=marksOf n [0]:=by
 rw[bs0,<- qkk,qjk];rfl
theorem qym (s:Sy) (n:Nat) (hn:s.n=(n:Int)) (h:0<n):qdb s (bs0 n)=marksOf n (qa4 s [0]):=by
 rw[bs0_marks h]
 exact qqw s n hn [0] λx c=>by
  rw[List.mem_singleton]at c;omega
end
section

theorem mvL_iff (s:Sy) (x:Lb) (bs:List Bool) (y:Int):y∈mvL s x bs s.es.length↔∃j:Fin s.es.length,mvB s x bs s.es[j]=true/\s.es[j].t=y:=by
 rw[mvL,List.take_length,List.mem_map]
 constructor
 .rintro ⟨e,he,rfl⟩;obtain⟨h1,h2⟩:=List.mem_filter.1 he;obtain⟨i,hi,rfl⟩:=List.getElem_of_mem h1;exact⟨⟨i,hi⟩,h2,rfl⟩
 rintro⟨j,h,rfl⟩;exact⟨s.es[j],List.mem_filter.2 ⟨List.getElem_mem _,h⟩,rfl⟩
theorem qfs {s:Sy} (h:qah s) (j:Fin s.es.length):0<=s.es[j].f/\s.es[j].f<s.n/\0<=s.es[j].t/\s.es[j].t<s.n/\0<=s.es[j].l/\s.es[j].l<s.ls.length:=by
 have:=(h.2.2.2.2.2 j.1 j.2).1
 rwa [qiy]at this
theorem mvB_iff {s:Sy} (v:qah s) {n:Nat} (hn:s.n=(n:Int)) (l:List Int) (x:Lb) (A:qat x.g=true) (j:Fin s.es.length):mvB s x (marksOf n l) s.es[j]=true↔s.es[j].f∈l/\qev s s.es[j].l (λy=>qat y.g && decide (qak y x=0))=true:=by
 obtain⟨B,C,D,E,F,G⟩:=qfs v j;obtain⟨q,u⟩:∃q:Nat,s.es[j].f=(q:Int):=⟨s.es[j].f.toNat,by omega⟩
 obtain⟨w,c⟩:∃w:Nat,s.es[j].l=(w:Int):=⟨s.es[j].l.toNat,by omega⟩
 have z:w<s.ls.length:=by omega
 have hf:q<(marksOf n l).length:=by rw[qcg];omega
 rw[qhb s _ c z,mvB,u,c,Int.toNat_natCast,Int.toNat_natCast,qd6 hf,qfn,List.getElem?_eq_getElem z];simp only[Bool.and_eq_true,decide_eq_true_eq,qa8]
 constructor
 .rintro ⟨r,o⟩;refine⟨r,?_,o⟩;rw[qbe.eq _ _ o];exact A
 rintro⟨r,_,o⟩;exact⟨r,o⟩
theorem qyu {s:Sy} (c:qah s) {n:Nat} (hn:s.n=(n:Int)) (l:List Int) (x:Lb) (q:qat x.g=true):mvM s n (marksOf n l) x=marksOf n (qd0 s x l):=by
 rw[mvM,qqw s n hn _ λy hy=>by
  obtain⟨j,_,rfl⟩:=(mvL_iff ..).1 hy;have:=qfs c j
  omega]
 refine qoo λi _=>?_
 refine qus s (λy=>?_) _;rw[mvL_iff,qkd]
 constructor
 .rintro ⟨j,h,e⟩;obtain⟨f,o⟩:=(mvB_iff c hn l x q j).1 h;exact⟨j,f,o,e⟩
 rintro⟨j,f,o,e⟩;exact⟨j,(mvB_iff c hn l x q j).2 ⟨f,o⟩,e⟩
theorem qk0 {s:Sy} (c:qah s) {n:Nat} (hn:s.n=(n:Int)) (tr:List Lb) (f:∀x∈tr,qat x.g=true):qau s n tr=marksOf n (qao s tr):=by
 have:∀(tr:List Lb) (l:List Int),(∀x∈tr,qat x.g=true)->tr.foldl (mvM s n) (marksOf n l)=marksOf n (tr.foldl (λl x=>qd0 s x l) l):=by
  intro tr
  induction tr with
  | nil=>intro l _;rfl
  | cons x tr ih =>
   intro l h;rw[List.foldl_cons,List.foldl_cons,qyu c hn l x (h x (by simp)),ih _ λy hy=>h y (by simp[hy])]
 rw[qau,qao,qym s n hn (by have:=c.1;omega),this tr _ f]
end
section
theorem qlz:∀(l c:List Int),l.Pairwise (· < ·)->c.Pairwise (· < ·)->(∀y,y∈l↔y∈c)->l=c
 | [],c,_,_,h=>by
  cases c with
  | nil=>rfl
  | cons y c=>exact absurd ((h y).2 (by simp)) (by simp)
 | x :: l,[],_,_,h=>absurd ((h x).1 (by simp)) (by simp)
 | x :: l,y :: c,h1,h2,h=>by
  obtain⟨q,u⟩:=List.pairwise_cons.1 h1;obtain⟨r,v⟩:=List.pairwise_cons.1 h2
  have e:x=y:=by
   rcases List.mem_cons.1 ((h x).1 (by simp))with e | e
   .exact e
   rcases List.mem_cons.1 ((h y).2 (by simp))with g | g
   .exact g.symm
   have:=q y g;have:=r x e;omega
  subst e
  congr 1
  refine qlz l c u v λz=>?_
  have o:=h z;simp only[List.mem_cons]at o
  constructor
  .intro f;have:=q z f
   rcases o.1 (.inr f)with e | e
   .omega
   exact e
  intro f;have:=r z f
  rcases o.2 (.inr f)with e | e
  .omega
  exact e
theorem qr9 (bs:List Bool):(mkL bs).Pairwise (· < ·):=by
 unfold mkL mkT;rw[List.pairwise_map];refine List.Pairwise.imp (λ{a b} (h:a<b)=>by omega) ((List.pairwise_lt_range).filter _)
end
section

theorem qqi {s:Sy} (hok:qah s) (l:List Int) (hl:∀y∈l,0<=y/\y<s.n):∀y∈qa4 s l,0<=y/\y<s.n :=
 qkj s (λy=>0<=y/\y<s.n) (λy z _ ht=>by
  obtain⟨j,_,_,rfl⟩:=ht;have:=qfs hok j
  omega) l hl
theorem behL_in {s:Sy} (c:qah s) (x:Lb) (l:List Int):∀y∈qd0 s x l,0<=y/\y<s.n :=
 qqi c _ λy hy=>by
  obtain⟨j,_,_,rfl⟩:=(qkd s x l y).1 hy;have:=qfs c j;omega
theorem qn6 {s:Sy} (c:qah s) (tr:List Lb):∀y∈qao s tr,0<=y/\y<s.n:=by
 rcases List.eq_nil_or_concat tr with rfl | ⟨f,x,rfl⟩
 .exact qqi c [0] λy hy=>by
   rw[List.mem_singleton]at hy;have:=c.1;omega
 rw[List.concat_eq_append,qk1];exact behL_in c x _
end
section
open Go.Shelf
def acB (s:Sy) (bs:List Bool) (e:Ed):Bool:=qdf bs e.f.toNat && (match s.ls[e.l.toNat]? with | some y=>qat y.g | none=>false)
def acX (s:Sy) (bs:List Bool) (k:Nat):List Int:=((s.es.take k).filter (acB s bs)).map (·.l)
theorem acX_succ (s:Sy) (bs:List Bool) {k:Nat} (h:k<s.es.length):acX s bs (k+1)=if acB s bs s.es[k]=true then acX s bs k++[s.es[k].l] else acX s bs k:=by
 unfold acX;rw[List.take_succ_eq_append_getElem h,List.filter_append,List.map_append,List.filter_cons]
 split <;> simp
def accM (s:Sy) (n st:Nat):List Bool:=marksOf s.ls.length (acX s (qdb s ((List.replicate n false).set st true)) s.es.length)
theorem qwj (s:Sy) (n c:Nat):(accM s n c).length=s.ls.length:=qcg _ _
theorem qxr (S:Nat->Prop) (s:Sy) (N:qah s) (cs:List Value) (n J:Nat) (hn:s.n=(n:Int)) (u:J<n) (w:World) (hx:RSy S w s cs) :
  Calls Tryz.prog 156 #[.agg cs.toArray,.int .i64 (J:Int)] w (qkm s.ls.length (accM s n J) w):=by
 have bp:n<=20000:=by have:=N.2.1;omega
 have a4:=N.2.2.1;have bo:=N.2.2.2.1;have aZ:Hid (∀j,(h:j<s.es.length)->qb8 s s.es[j]=true):=λj h=>(N.2.2.2.2.2 j h).1
 obtain⟨B0,ah⟩:=nm ((List.replicate n false).set J true);have X:B0.length=n:=by rw[<- ah];simp
 have ad:=λW (hW:Ext w W) v (hv:RSl qac 1 (λ_=>True) W B0 [v])=>qpu (λ_=>True) s N cs B0 v W (RSy.good.bel (RSy.good.mono hx λ_ _ _=>trivial) hW) hv (by rw[X,hn])
 have V:Hid (accM s n J=marksOf s.ls.length (acX s (qdb s B0) s.es.length)):=by show _=_;rw[accM,ah]
 have aD:Hid ((qdb s B0).length=n):=qp9 s B0 n hn;obtain⟨C,aH⟩:=nm (qdb s B0);rw[aH]at ad V aD;rw[X]at ad;obtain⟨_,v1,u1,rfl,hv,hu⟩:=id hx;obtain⟨Al,cl,rfl,bd,bc⟩:=hv.val;obtain⟨Ae,ce,rfl,bn,ba⟩:=hu.val;have aU:=Hd hv;have aT:=Hd hu;have HN:=Hd hn;rw[hn]at ad ⊢;clear hx hv hu hn N aH X;obtain⟨W0,ab⟩:=nm (w.alloc (.cells #[.int .i64 (n:Int),.slice Al s.ls.length cl,.slice Ae s.es.length ce] 25));have aI:Ext w W0:=by rw[<- ab];exact(Ext.refl w).alloc _
 have ak:qaf W0 w.heap.size 25 [.int .i64 (n:Int),.slice Al s.ls.length cl,.slice Ae s.es.length ce]:=by rw[<- ab];exact qaf.new w 25 _
 have aC:W0.heap.size=w.heap.size+1:=by rw[<- ab,World.size_alloc]
 have o:=qf4 W0 W0.heap.size n (Nat.le_refl _) (by omega);have af:=qhy W0 n (by omega);obtain⟨W1,ai⟩:=nm (W0.alloc (.cells (Array.replicate n (.bool false)) 4));rw[ai]at o af;have au:Ext W0 W1:=by rw[<- ai];exact(Ext.refl _).alloc _
 have az:=ak.ext au;have a8:W1.heap.size=w.heap.size+2:=by rw[<- ai,World.size_alloc,aC]
 rw[aC]at o af;have r:=qab.put1 qac.good o (by simp) J (.bool true) true (by simpa using u) rfl;rw[ah]at r;obtain⟨_,gc,_,gf⟩:=qab.get1 o J (by simpa using u);have aA:Bt (λq=>q=w.heap.size+1) W1 (W1.setCell ⟨w.heap.size+1,J,none⟩ (.bool true)):=Bt.set (Z:=λq=>q=w.heap.size+1) (Bt.refl _ W1) (p:=⟨w.heap.size+1,J,none⟩) (.inr rfl) _;have L:=az.bt aA (by omega)
 have av:Ext w (W1.setCell ⟨w.heap.size+1,J,none⟩ (.bool true)):=Bt.new (aI.trans' au) aA λi _ hi=>by
  have h:i=w.heap.size+1:=hi;omega
 have ar:=Hd av;have aq:=Hd (ad _ av _ ((RSl.good qac.good).mono (r.sl qac.good (by decide)) λ_ _ _=>trivial));have ag:=Hd L;have aV:=Hd ab;have x1:=ak.cell 0 _;have xz:=ak.lt;have y1:=az.lt;have c0:=L.cell 0 _;have c1:=L.cell 1 _;have c2:=L.cell 2 _;have cz:=L.lt;have zn:(0:Int)<=(J:Int):=by omega
 have bu:(J:Int)<(n:Int):=by omega
 clear ak az L aA av aI au o r ad ab ai aC a8 ah
 go_enter Tryz.func156,Tryz.ntmps156
 go_upto_region 1 with (fail)
 rw[aV.out]
 go_wp2_with fail
 obtain⟨W2,ax⟩:=nm (W1.setCell ⟨w.heap.size+1,J,none⟩ (.bool true));rw[ax]at aq ar ag c0 c1 c2 cz;rw[ax]
 go_wp2_with fail
 refine aq.out.mono ?_;rintro e T ⟨A,c,rfl,h1,h2⟩;have U:Hid (Ext w T):=ar.out.trans' h2;have D:=ag.out.ext h2;have HM:Hid (RSl qac 1 (λ_=>True) T C [.slice A n c]):=(RSl.good qac.good).mono (h1.sl qac.good (by decide)) λ_ _ _=>trivial
 obtain⟨m,hm⟩:=nm (s.ls.length);rw[hm]at V a4 ag c1 D;have o:=qf4 T w.heap.size m U.out.size (by omega);have af:=qhy T m (by omega);obtain⟨W4,aj⟩:=nm (T.alloc (.cells (Array.replicate m (.bool false)) 4));rw[aj]at o af;have aw:Ext T W4:=by rw[<- aj];exact(Ext.refl _).alloc _
 have am:Hid (RBs w.heap.size W4 (marksOf m (acX s C 0)) (.slice (some ⟨T.heap.size,0,none⟩) m m)):=by
  show RBs _ _ _ _;rw[acX,List.take_zero,List.filter_nil,List.map_nil,qkk];exact o
 have a9:W4.heap.size=T.heap.size+1:=by rw[<- aj,World.size_alloc]
 have aQ:=Hd (D.ext aw);have aS:=Hd aw;have a5:w.heap.size<T.heap.size:=by have:=D.lt;omega
 have HW:=Hd (U.out.size);have aE:=Hd hm;obtain⟨I,aL⟩:=nm (T.heap.size);have HG:Hid (T.heap.size<=I):=by show _<=_;omega
 have a1:I<W4.heap.size:=by omega
 have a3:w.heap.size≠I:=by omega
 rw[aL]at am af;have x0:=D.cell 0 _;have x1:=D.cell 1 _;have x2:=D.cell 2 _;have xz:=D.lt;clear D aw aj a9 o h1 h2 c0 c1 c2 cz ax gc gf a5 hm aL aq ag ar
 go_wp2_with fail
 go_loopw [7] (λvi wr=>∃k:Nat,k<=s.es.length/\vi = .int .i64 k/\Bt (λq=>q=I) W4 wr/\Hid (RBs w.heap.size wr (marksOf m (acX s C k)) (.slice (some ⟨I,0,none⟩) m m))) (λvi _=>s.es.length-(intOf vi).toNat)
 case atStart=>exact⟨0,Nat.zero_le _,rfl,Bt.refl _ _,am.out⟩
 clear x0 x1 x2 xz;obtain⟨k,hk,rfl,M,Y⟩:=hrel;have hE:Ext T wr:=Bt.new aS.out M λi _ hi=>by subst hi;exact HG.out
 have ac:=aQ.out.bt M a3;have x0:=ac.cell 0 _;have x1:=ac.cell 1 _;have x2:=ac.cell 2 _;have xz:=ac.lt;have a2:I<wr.heap.size:=Nat.lt_of_lt_of_le a1 M.size;clear ac
 by_cases al:k<s.es.length
 .obtain ⟨b,bq,bh,rfl,hb,hS,hl,hr,z⟩:=(qa3.good.bel aT.out (U.out.trans' hE)).get k al;obtain⟨_,_,_,rfl⟩:=id hr;have g0:=z.get 0 _;have g1:=z.get 1 _;have g2:=z.get 2 _;simp only[Nat.add_zero]at g0;have E:=aZ.out k al;have u:=acX_succ s C al;have B:acB s C s.es[k]=(qdf C s.es[k].f.toNat && (match s.ls[s.es[k].l.toNat]? with | some y=>qat y.g | none=>false)):=rfl;rw[qiy]at E;obtain⟨qf,hq⟩:=nm (s.es[k].f);rw[hq]at E g0 B;clear hq;obtain⟨ql,hq⟩:=nm (s.es[k].l);rw[hq]at E g1 B u;clear hq;obtain⟨qt,hq⟩:=nm (s.es[k].t);rw[hq]at E g2;clear hq;obtain⟨fi,rfl⟩:∃fi:Nat,qf=(fi:Int):=⟨qf.toNat,by omega⟩
  obtain⟨G,rfl⟩:∃G:Nat,ql=(G:Int):=⟨ql.toNat,by omega⟩
  have hN:=HN.out;have aG:=aD.out;have aM:G<s.ls.length:=by omega
  have aK:fi<C.length:=by omega
  rw[Int.toNat_natCast,Int.toNat_natCast,List.getElem?_eq_getElem aM,qd6 aK]at B;obtain⟨bb,ob,aW,aX,bk,_,_,a6,ao⟩:=((RSl.good qac.good).bel HM.out hE).get fi aK;subst aX;obtain rfl:aW=[.bool C[fi]]:=a6;have d0:=ao.get 0 _;simp only[Nat.add_zero,Nat.mul_one]at d0;obtain⟨bl,ol,bg,aY,bm,_,_,aO,ae⟩:=(qaa.good.bel aU.out (U.out.trans' hE)).get G aM;subst aY;obtain⟨_,vl,rfl,a7⟩:=id aO;have l0:=ae.get 0 _;have l1:=ae.get 1 _;simp only[Nat.add_zero]at l0;have aN:G<m:=by have:=aE.out;omega
  have z1:(0:Int)<=(G:Int):=by omega
  have z2:(G:Int)<(m:Int):=by omega
  have z3:(0:Int)<=(fi:Int):=by omega
  have z4:(fi:Int)<(n:Int):=by omega
  have z7:(0:Int)<=(k:Int):=by omega
  have z8:(k:Int)<(s.es.length:Int):=by omega
  have aB:k+1<=s.es.length:=al;simp only at B;obtain⟨bf,aJ⟩:=nm (C[fi]);rw[aJ]at B d0;obtain⟨gl,ap⟩:=nm (s.ls[G].g);rw[ap]at B l0;have F:=λW=>qpz gl vl W
  obtain⟨bt,an⟩:=nm (qat gl);rw[an]at B F;rw[B]at u;clear hr z hS hl E B hN aG ao ae aO a7 aJ an ap
  cases bf
  .have HC:Hid (acX s C (k+1)=acX s C k):=by show _=_;rw[u];rfl
   clear u F
   go_wp2_with fail
   go_roundw
   case rel=>exact⟨k+1,aB,by go_num,M.ext ((Ext.refl wr).alloc _),by rw[HC.out];exact Y.out.ext qac.good ((Ext.refl wr).alloc _)⟩
   simp[intOf];omega
  cases bt
  .have HC:Hid (acX s C (k+1)=acX s C k):=by show _=_;rw[u];rfl
   clear u
   go_wp2_with fail
   refine(F _).mono ?_;rintro e w4 ⟨rfl,O⟩
   go_wp2_with fail
   go_roundw
   case rel=>exact⟨k+1,aB,by go_num,M.ext (Ext.trans' ((Ext.refl wr).alloc _) O),by rw[HC.out];exact Y.out.ext qac.good (Ext.trans' ((Ext.refl wr).alloc _) O)⟩
   simp[intOf];omega
  have HC:Hid (acX s C (k+1)=acX s C k++[(G:Int)]):=by show _=_;rw[u];rfl
  clear u
  go_wp2_with fail
  refine(F _).mono ?_;rintro e w4 ⟨rfl,O⟩;have ay:Ext wr w4:=Ext.trans' ((Ext.refl wr).alloc _) O;have aa:=Y.out.ext qac.good ay;obtain⟨br,bi,aP,bj⟩:=qab.get1 aa G (by rw[qcg];exact aN);have r:=qab.put1 qac.good aa (qcg _ _).symm G (.bool true) true (by rw[qcg];exact aN) rfl;have aR:Hid (Bt (λq=>q=I) W4 (w4.setCell ⟨I,G,none⟩ (.bool true))):=Bt.set (Z:=λq=>q=I) (M.ext ay) (p:=⟨I,G,none⟩) (.inr rfl) _;have t4:=Ext.keep O (show(wr.alloc (.cells #[.int .i64 (fi:Int),.int .i64 (G:Int),.int .i64 qt] 88)).cell? ⟨wr.heap.size,1,none⟩=some (.int .i64 (G:Int)) from(qaf.new wr 88 [.int .i64 (fi:Int),.int .i64 (G:Int),.int .i64 qt]).cell 1 _);have tz:wr.heap.size<w4.heap.size:=by have:=O.size;rw[World.size_alloc]at this;omega
  have be:I<w4.heap.size:=Nat.lt_of_lt_of_le a2 ay.size;rw[qjk,<- HC.out]at r;have aF:=Hd r;clear r aa aP Y F
  go_wp2_with fail
  go_roundw
  case rel=>exact⟨k+1,aB,by go_num,aR.out,aF.out⟩
  simp[intOf];omega
 obtain rfl:k=s.es.length:=by omega
 have HF:Hid (RBs w.heap.size wr (accM s n J) (.slice (some ⟨I,0,none⟩) m m)):=by
  show RBs _ _ _ _;rw[V.out];exact Y.out
 go_wp2_with fail
 go_ret;rw[aE.out];exact⟨_,_,rfl,HF.out,U.out.trans' hE⟩
end
section
/- The reference's has,accepts and refuses: walked. -/
open Go.Shelf
def hasB (l:List Lb) (x:Lb):Bool:=l.any λy=>qa8 y x
theorem hasB_take {l:List Lb} {x:Lb} {k:Nat} (h:k<l.length):hasB (l.take (k+1)) x=(hasB (l.take k) x || qa8 l[k] x):=by
 rw[hasB,hasB,List.take_succ_eq_append_getElem h,List.any_append,List.any_cons,List.any_nil,Bool.or_false]
theorem hasB_yes {l:List Lb} {x:Lb} {k:Nat} (h:k<l.length) (hs:qa8 l[k] x=true):hasB l x=true:=List.any_eq_true.2 ⟨l[k],List.getElem_mem h,hs⟩
theorem has_c (S:Nat->Prop) (l:List Lb) (v:Value) (x:Lb) (cx:List Value) (w:World) (N:qaa S w l [v]) (C:RLb S w x cx) :
  Calls Tryz.prog 233 #[v,.agg cx.toArray] w λe w'=>e = .returned (.bool (hasB l x))/\Ext w w':=by
 have HX:=Hd N;have E:=Hd C;obtain⟨A,c,rfl,hc,ae⟩:=N.val;obtain⟨_,vx,rfl,ad⟩:=id C;obtain⟨U,B⟩:=nm (x.g);rw[B];rw[B]at E;obtain⟨G,r⟩:=nm (w.alloc (.cells #[.int .i64 U,vx] 61));have I:qaf G w.heap.size 61 [.int .i64 U,vx]:=by rw[<- r];exact qaf.new w 61 _
 have J:Ext w G:=by rw[<- r];exact(Ext.refl w).alloc _
 have X:=Hd I;have Y:=Hd J;have aa:=Hd r;clear N C ad B I J r
 go_enter Tryz.func233,Tryz.ntmps233
 go_upto_region 1 with (fail)
 rw[aa.out]
 go_wp2_with fail
 go_loopw [5] (λvi wr=>∃k:Nat,k<=l.length/\vi = .int .i64 k/\Ext G wr/\Hid (hasB (l.take k) x=false)) (λvi _=>l.length-(intOf vi).toNat)
 case atStart=>exact⟨0,Nat.zero_le _,rfl,Ext.refl _,(rfl:hasB [] x=false)⟩
 obtain⟨k,hk,rfl,hE,O⟩:=hrel;have q:Ext w wr:=Y.out.trans' hE;have M:=X.out.ext hE;obtain⟨y0,y1,yz⟩:=c2 M;clear M
 by_cases z:k<l.length
 .obtain ⟨b,af,cs,rfl,hb,hS,N,hr,o⟩:=(qaa.good.bel HX.out q).get k z;have f:=λW (hW:Ext wr W)=>qk9 S _ x _ _ W (RLb.good.bel hr hW) (RLb.good.bel E.out (q.trans' hW))
  obtain⟨_,v3,rfl,ac⟩:=id hr;obtain⟨a0,a1⟩:=g2 o;have F:=Hd (hasB_take (x:=x) z);have V:=hasB_yes (x:=x) z;have ab:k+1<=l.length:=z;obtain⟨q1,T⟩:=nm (l[k].g);rw[T]at f a0;obtain⟨bs,L⟩:=nm (qa8 l[k] x);rw[L]at f F V;have u:∀(y:World),Ext wr (qam wr y):=λy=>qa7 _ y
  clear o N hS hr ac T L
  cases bs
  .clear V
   go_wp2_with fail
   (refine qap ?_;(repeat (first | go_big_quiet_step ((go_at_call 133;exact qaq (f _ (u _)))) | quiet_step ((go_at_call 133;exact qaq (f _ (u _))))));refine wpQuiet_nil ?_)
   intro w4 D
   go_wp2_with fail
   go_roundw
   case rel=>exact⟨k+1,ab,by go_num,hE.trans' D,(by rw[F.out,O.out];rfl:hasB (l.take (k+1)) x=false)⟩
   simp[intOf];omega
  have HY:=Hd (V rfl);clear V
  go_wp2_with fail
  (refine qap ?_;(repeat (first | go_big_quiet_step ((go_at_call 133;exact qaq (f _ (u _)))) | quiet_step ((go_at_call 133;exact qaq (f _ (u _))))));refine wpQuiet_nil ?_)
  intro w4 D
  go_wp2_with fail
  go_ret;exact⟨by rw[HY.out];rfl,q.trans' D⟩
 obtain rfl:k=l.length:=by omega
 have HF:Hid (hasB l x=false):=by have h:=O.out;rw[List.take_length]at h;exact h
 go_wp2_with fail
 go_ret;exact⟨by rw[HF.out];rfl,q⟩
def qgj (s:Sy) (bs:List Bool) (l:List Lb) (k:Nat):Bool:=(List.range k).any λi=>qdf bs i && (match s.ls[i]? with | some y=>hasB l y | none=>false)
def qf6 (s:Sy) (n st:Nat) (l:List Lb):Bool:=qgj s (accM s n st) l s.ls.length
theorem acp_succ (s:Sy) (bs:List Bool) (l:List Lb) (k:Nat):qgj s bs l (k+1)=(qgj s bs l k || (qdf bs k && (match s.ls[k]? with | some y=>hasB l y | none=>false))):=by
 rw[qgj,qgj,List.range_succ,List.any_append,List.any_cons,List.any_nil,Bool.or_false]
theorem acp_yes (s:Sy) (bs:List Bool) (l:List Lb) {k m:Nat} (h:k<m) (c:(qdf bs k && (match s.ls[k]? with | some y=>hasB l y | none=>false))=true):qgj s bs l m=true :=
 List.any_eq_true.2 ⟨k,List.mem_range.2 h,c⟩
theorem qti (S:Nat->Prop) (s:Sy) (L:qah s) (cs:List Value) (n z:Nat) (hn:s.n=(n:Int)) (aw:z<n) (l:List Lb) (v:Value) (w:World) (hx:RSy S w s cs) (hl:qaa S w l [v]) :
  Calls Tryz.prog 173 #[.agg cs.toArray,.int .i64 (z:Int),v] w λe w'=>e = .returned (.bool (qf6 s n z l))/\Ext w w':=by
 have au:=L.2.2.1;have y:=λW (hW:Ext w W)=>qxr S s L cs n z hn aw W (RSy.good.bel hx hW)
 have q:=qwj s n z;have o:Hid (qf6 s n z l=qgj s (accM s n z) l s.ls.length):=rfl;obtain⟨u,T⟩:=nm (accM s n z);rw[T]at y q o;obtain⟨_,v1,u1,rfl,hv,hu⟩:=id hx;obtain⟨Al,cl,rfl,ab,az⟩:=hv.val;obtain⟨Ae,ce,rfl,aE,ay⟩:=hu.val;obtain⟨A,c,rfl,hc,aD⟩:=hl.val;have al:=Hd hv;have HL:=Hd hl;rw[hn]at y ⊢;obtain⟨m,hm⟩:=nm (s.ls.length);rw[hm]at y q o ab au ⊢;have an:=Hd hm;have am:=Hd q;clear hx hv hu hn L T hl hm q;obtain⟨O,C⟩:=nm (w.alloc (.cells #[.int .i64 (n:Int),.slice Al m cl,.slice Ae s.es.length ce] 25));have G:Ext w O:=by rw[<- C];exact(Ext.refl w).alloc _
 have I:qaf O w.heap.size 25 [.int .i64 (n:Int),.slice Al m cl,.slice Ae s.es.length ce]:=by rw[<- C];exact qaf.new w 25 _
 obtain⟨x0,x1,x2,xz⟩:=c3 I;have ah:=Hd I;have aj:=Hd G;have ao:=Hd C;have V:=y O G;clear I G C y
 go_enter Tryz.func173,Tryz.ntmps173
 go_upto_region 1 with (fail)
 rw[ao.out]
 go_wp2_with fail
 refine V.mono ?_;rintro e w1 ⟨A1,c1,rfl,ho,h1⟩;have ak:Hid (Ext w w1):=aj.out.trans' h1;have HM:Hid (RSl qac 1 (λ_=>True) w1 u [.slice A1 m c1]):=(RSl.good qac.good).mono (ho.sl qac.good (by decide)) λ_ _ _=>trivial
 have ai:=Hd (ah.out.ext h1);have aF:=am.out;clear ho x0 x1 x2 xz
 go_wp2_with fail
 go_loopw [8] (λvi wr=>∃k:Nat,k<=m/\vi = .int .i64 k/\Ext w1 wr/\Hid (qgj s u l k=false)) (λvi _=>m-(intOf vi).toNat)
 case atStart=>exact⟨0,Nat.zero_le _,rfl,Ext.refl _,(rfl:qgj s u l 0=false)⟩
 obtain⟨k,hk,rfl,U,J⟩:=hrel;have B:Ext w wr:=ak.out.trans' U;have aa:=ai.out.ext U;obtain⟨x0,x1,x2,xz⟩:=c3 aa;clear aa
 by_cases ag:k<m
 .have ae:k<u.length:=by omega
  have af:k<s.ls.length:=by have:=an.out;omega
  have r:=Hd (acp_succ s u l k);have D:=acp_yes s u l ag;rw[qd6 ae,List.getElem?_eq_getElem af]at r D;simp only at r D;obtain⟨bb,ob,ap,aq,aB,_,_,av,E⟩:=((RSl.good qac.good).bel HM.out U).get k ae;subst aq;obtain rfl:ap=[.bool u[k]]:=av;have d0:=E.get 0 _;simp only[Nat.add_zero,Nat.mul_one]at d0;obtain⟨bl,ol,aA,ar,aC,_,_,M,F⟩:=(qaa.good.bel al.out B).get k af;subst ar;have f:=λW (hW:Ext wr W)=>has_c S l _ _ _ W (qaa.good.bel HL.out (B.trans' hW)) (RLb.good.bel M hW)
  obtain⟨_,vl,rfl,ax⟩:=id M;obtain⟨l0,l1⟩:=g2 F;have ad:k+1<=m:=ag;have z1:(0:Int)<=(k:Int):=by omega
  have z2:(k:Int)<(m:Int):=by omega
  obtain⟨gl,ac⟩:=nm (s.ls[k].g);rw[ac]at f l0;obtain⟨bf,X⟩:=nm (u[k]);rw[X]at d0 r D;obtain⟨bh,Y⟩:=nm (hasB l s.ls[k]);rw[Y]at f r D;clear E F M ax ac X Y
  cases bf
  .clear f D
   go_wp2_with fail
   go_roundw
   case rel=>exact⟨k+1,ad,by go_num,U,(by rw[r.out,J.out];rfl:qgj s u l (k+1)=false)⟩
   simp[intOf];omega
  cases bh
  .clear D
   go_wp2_with fail
   refine(f _ bel).mono ?_;rintro e w4 ⟨rfl,N⟩
   go_wp2_with fail
   go_roundw
   case rel=>exact⟨k+1,ad,by go_num,U.trans' N,(by rw[r.out,J.out];rfl:qgj s u l (k+1)=false)⟩
   simp[intOf];omega
  have HY:Hid (qf6 s n z l=true):=by show _=_;rw[o.out];exact D rfl
  clear D
  go_wp2_with fail
  refine(f _ bel).mono ?_;rintro e w4 ⟨rfl,N⟩
  go_wp2_with fail
  go_ret;exact⟨by rw[HY.out];rfl,B.trans' N⟩
 obtain rfl:k=m:=by omega
 have HF:Hid (qf6 s n z l=false):=by show _=_;rw[o.out];exact J.out
 go_wp2_with fail
 go_ret;exact⟨by rw[HF.out];rfl,B⟩
def qdz (s:Sy) (n:Nat) (bs:List Bool) (l:List Lb) (k:Nat):Bool:=(List.range k).any λi=>qdf bs i && !qf6 s n i l
theorem qxs (s:Sy) (n:Nat) (bs:List Bool) (l:List Lb) (k:Nat):qdz s n bs l (k+1)=(qdz s n bs l k || (qdf bs k && !qf6 s n k l)):=by
 rw[qdz,qdz,List.range_succ,List.any_append,List.any_cons,List.any_nil,Bool.or_false]
theorem qzj (s:Sy) (n:Nat) (bs:List Bool) (l:List Lb) {k m:Nat} (h:k<m) (c:(qdf bs k && !qf6 s n k l)=true):qdz s n bs l m=true :=
 List.any_eq_true.2 ⟨k,List.mem_range.2 h,c⟩
theorem qv4 (S:Nat->Prop) (s:Sy) (D:qah s) (cs:List Value) (n:Nat) (hn:s.n=(n:Int)) (bs:List Bool) (z:bs.length=n) (l:List Lb) (vb v:Value) (w:World) (hx:RSy S w s cs) (hm:RSl qac 1 S w bs [vb]) (hl:qaa S w l [v]) :
  Calls Tryz.prog 110 #[.agg cs.toArray,vb,v] w λe w'=>e = .returned (.bool (qdz s n bs l n))/\Ext w w':=by
 have ao:n<=20000:=by have:=D.2.1;omega
 have y:=λst ag W (U:Ext w W)=>qti S s D cs n st hn ag l v W (RSy.good.bel hx U) (qaa.good.bel hl U)
 obtain⟨_,v1,u1,rfl,hv,hu⟩:=id hx;obtain⟨Al,cl,rfl,ak,aj⟩:=hv.val;obtain⟨Ae,ce,rfl,an,ai⟩:=hu.val;obtain⟨Ab,cb,rfl,ae,ah⟩:=hm.val;obtain⟨A,c,rfl,hc,am⟩:=hl.val;have HM:=Hd hm;rw[hn]at y ⊢;rw[z]at ae HM ⊢;have Y:=Hd z;have V:=Hd y;clear hx hv hu hn D hl hm z y;obtain⟨F,q⟩:=nm (w.alloc (.cells #[.int .i64 (n:Int),.slice Al s.ls.length cl,.slice Ae s.es.length ce] 25));have G:Ext w F:=by rw[<- q];exact(Ext.refl w).alloc _
 have I:qaf F w.heap.size 25 [.int .i64 (n:Int),.slice Al s.ls.length cl,.slice Ae s.es.length ce]:=by rw[<- q];exact qaf.new w 25 _
 have X:=Hd I;have aa:=Hd G;have ab:=Hd q;clear I G q
 go_enter Tryz.func110,Tryz.ntmps110
 go_upto_region 1 with (fail)
 rw[ab.out]
 go_wp2_with fail
 go_loopw [7] (λvi wr=>∃k:Nat,k<=n/\vi = .int .i64 k/\Ext F wr/\Hid (qdz s n bs l k=false)) (λvi _=>n-(intOf vi).toNat)
 case atStart=>exact⟨0,Nat.zero_le _,rfl,Ext.refl _,(rfl:qdz s n bs l 0=false)⟩
 obtain⟨k,hk,rfl,T,C⟩:=hrel;have o:Ext w wr:=aa.out.trans' T;have M:=X.out.ext T;obtain⟨x0,x1,x2,xz⟩:=c3 M;clear M
 by_cases B:k<n
 .have O:k<bs.length:=by have:=Y.out;omega
  have g:=Hd (qxs s n bs l k);have u:=qzj s n bs l B;rw[qd6 O]at g u;obtain⟨bb,ob,ac,ad,al,_,_,af,r⟩:=((RSl.good qac.good).bel HM.out o).get k O;subst ad;obtain rfl:ac=[.bool bs[k]]:=af;have d0:=r.get 0 _;simp only[Nat.add_zero,Nat.mul_one]at d0;have f:=λW (U:Ext wr W)=>V.out k B W (o.trans' U)
  have N:k+1<=n:=B;have z1:(0:Int)<=(k:Int):=by omega
  have z2:(k:Int)<(n:Int):=by omega
  obtain⟨bf,J⟩:=nm (bs[k]);rw[J]at d0 g u;obtain⟨bh,L⟩:=nm (qf6 s n k l);rw[L]at f g u;clear r J L
  cases bf
  .clear f u
   go_wp2_with fail
   go_roundw
   case rel=>exact⟨k+1,N,by go_num,T,(by rw[g.out,C.out];rfl:qdz s n bs l (k+1)=false)⟩
   simp[intOf];omega
  cases bh
  .have HY:=Hd (u rfl);clear u
   go_wp2_with fail
   refine(f _ bel).mono ?_;rintro e w4 ⟨rfl,E⟩
   go_wp2_with fail
   go_ret;exact⟨by rw[HY.out];rfl,o.trans' E⟩
  clear u
  go_wp2_with fail
  refine(f _ bel).mono ?_;rintro e w4 ⟨rfl,E⟩
  go_wp2_with fail
  go_roundw
  case rel=>exact⟨k+1,N,by go_num,T.trans' E,(by rw[g.out,C.out];rfl:qdz s n bs l (k+1)=false)⟩
  simp[intOf];omega
 obtain rfl:k=n:=by omega
 have HF:=C
 go_wp2_with fail
 go_ret;exact⟨by rw[HF.out];rfl,o⟩
end
end Go.Proofs.YtegenalcheooeaaGreat
