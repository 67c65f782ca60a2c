/- Of the proof of a law of the suites: RPBuild, RefPlace, RefMerge, RefUsed, LMut4, PAfter, LSmall2. -/
import Derived.Test.YtegenalcheooeaaGreatAF02
import Derived.Test.YtegenalcheooeaaGreatAF04
import Derived.Test.YtegenalcheooeaaGreatAF05
import Derived.Test.YtegenalcheooeaaGreatAF07
import Derived.Test.YtegenalcheooeaaGreatAF08
import Derived.Test.YtegenalcheooeaaGreatAF09
import Derived.Test.YtegenalcheooeaaGreatAF10
import Derived.Test.YtegenalcheooeaaGreatB03
import Derived.Test.YtegenalcheooeaaGreatB11
import Derived.Test.YtegenalcheooeaaGreatB13
import Derived.Test.YtegenalcheooeaaGreatB14
set_option linter.unusedSectionVars false
set_option linter.unusedSimpArgs false
set_option linter.unusedVariables false
namespace Go.Proofs.YtegenalcheooeaaGreat
open Go.RowKit
attribute [local go_sem] cell?_exto
set_option maxHeartbeats 16000000
set_option maxRecDepth 100000
section

def qc0 (x:Lb):List Lb->Nat
 | []=>0
 | y :: ys=>if qak y x<0 then qc0 x ys+1 else 0
theorem qmq (x:Lb):∀c:List Lb,qc0 x c<=c.length
 | []=>Nat.le_refl _
 | y :: ys=>by
  have:=qmq x ys;rw[qc0,List.length_cons]
  split <;> omega
theorem qn0 {x:Lb}:∀{c:List Lb} {p:Nat},p<=c.length->(∀j (h:j<c.length),j<p->qak c[j] x<0)->(∀h:p<c.length,¬ qak c[p] x<0)->qc0 x c=p
 | [],p,hp,_,_=>by simp at hp;subst hp;rfl
 | y :: ys,0,_,_,h=>by
  have h:=h (by simp);rw[List.getElem_cons_zero]at h;rw[qc0,if_neg h]
 | y :: ys,p+1,hp,h1,h2=>by
  have f:=h1 0 (by simp) (by omega);rw[List.getElem_cons_zero]at f
  rw[qc0,if_pos f,qn0 (p:=p) (by simpa using hp) (λj g o=>by
   have h:=h1 (j+1) (by simpa using g) (by omega)
   rwa [List.getElem_cons_succ]at h) (λh=>by
   have h:=h2 (by simpa using h)
   rwa [List.getElem_cons_succ]at h)]
theorem qvb (x:Lb):∀(c:List Lb),∀y∈c.take (qc0 x c),qak y x<0
 | [],y,h=>by simp at h
 | z :: zs,y,h=>by
  rw[qc0]at h
  split at h
  .rename_i f
   rcases List.mem_cons.1 (by simpa using h)with rfl | h
   .exact f
   exact qvb x zs y h
  simp at h
theorem qvd {x:Lb}:∀{c:List Lb},Inc c->x∉c->∀y∈c.drop (qc0 x c),qak x y<0
 | [],_,_,y,h=>by simp at h
 | z :: zs,hi,hn,y,h=>by
  rw[qc0]at h
  split at h
  .exact qvd (List.pairwise_cons.1 hi).2 (λh=>hn (by simp[h])) y (by simpa using h)
  rename_i o;have g:qak z x≠0:=λe=>hn (by rw[qbe.eq _ _ e];simp)
  have f:qak x z<0:=(qbe.sgn _ _).2 (by omega)
  rcases List.mem_cons.1 (by simpa using h)with rfl | h
  .exact f
  exact qbe.trans _ _ _ f ((List.pairwise_cons.1 hi).1 y h)
def qed (ls:List Lb) (x:Lb):List Lb:=if x∈ls then ls else ls.take (qc0 x ls)++x :: ls.drop (qc0 x ls)
theorem insLb_mem (c:List Lb) (x y:Lb):y∈qed c x↔y=x\/y∈c:=by
 unfold qed
 split
 .rename_i h;exact⟨.inr,λf=>by rcases f with rfl | f <;> assumption⟩
 have:y∈c↔y∈c.take (qc0 x c)\/y∈c.drop (qc0 x c):=by rw[<- List.mem_append,List.take_append_drop]
 rw[this,List.mem_append,List.mem_cons]
 constructor
 .rintro (h | h | h)
  .exact .inr (.inl h)
  .exact .inl h
  exact .inr (.inr h)
 rintro(h | h | h)
 .exact .inr (.inl h)
 .exact .inl h
 exact .inr (.inr h)
theorem insLb_inc {g:List Lb} (hi:Inc g) (x:Lb):Inc (qed g x):=by
 unfold qed
 split
 .exact hi
 rename_i h;have q:=qvb x g;have r:=qvd hi h;have f:=hi;rw[<- List.take_append_drop (qc0 x g) g]at f;obtain⟨a,b,c⟩:=List.pairwise_append.1 f;refine List.pairwise_append.2 ⟨a,List.pairwise_cons.2 ⟨r,b⟩,λy hy z o=>?_⟩
 rcases List.mem_cons.1 o with rfl | o
 .exact q y hy
 exact c y hy z o
theorem insLb_len (c:List Lb) (x:Lb):(qed c x).length<=c.length+1:=by
 unfold qed
 split
 .omega
 rw[List.length_append,List.length_cons,List.length_take,List.length_drop];have:=qmq x c;omega
def rLs (rs:List Ar) (k:Nat):List Lb:=(rs.take k).foldl (λls a=>qed ls a.l) []
theorem qsp {rs:List Ar} {k:Nat} (h:k<rs.length):rLs rs (k+1)=qed (rLs rs k) rs[k].l:=by
 rw[rLs,List.take_succ_eq_append_getElem h,List.foldl_append];rfl
theorem qq2:∀(rs:List Ar) (c:List Lb),Inc c->Inc (rs.foldl (λc a=>qed c a.l) c)/\∀x,x∈rs.foldl (λc a=>qed c a.l) c↔x∈c\/∃a∈rs,a.l=x
 | [],c,h=>⟨h,λx=>by simp⟩
 | a :: rs,c,h=>by
  obtain⟨g,o⟩:=qq2 rs (qed c a.l) (insLb_inc h a.l);refine⟨g,λx=>?_⟩;rw[List.foldl_cons,o,insLb_mem]
  constructor
  .rintro ((h | h) | ⟨b,f,e⟩)
   .exact .inr ⟨a,by simp,h.symm⟩
   .exact .inl h
   exact .inr ⟨b,by simp[f],e⟩
  rintro(h | ⟨b,f,e⟩)
  .exact .inl (.inr h)
  rcases List.mem_cons.1 f with rfl | f
  .exact .inl (.inl e.symm)
  exact .inr ⟨b,f,e⟩
theorem qou (rs:List Ar) (k:Nat):Inc (rLs rs k):=(qq2 (rs.take k) [] List.Pairwise.nil).1
theorem rLs_mem (rs:List Ar) (k:Nat) (x:Lb):x∈rLs rs k↔∃a∈rs.take k,a.l=x:=by
 rw[rLs,(qq2 (rs.take k) [] List.Pairwise.nil).2]
 simp
theorem qqe (rs:List Ar):∀k,(rLs rs k).length<=k
 | 0=>by simp[rLs]
 | k+1=>by
  by_cases h:k<rs.length
  .rw [qsp h];have:=qqe rs k;have:=insLb_len (rLs rs k) rs[k].l;omega
  have e:rLs rs (k+1)=rLs rs k:=by rw[rLs,rLs,List.take_of_length_le (by omega),List.take_of_length_le (by omega)]
  have:=qqe rs k;rw[e];omega
theorem qpq {α:Type} {cf:α->α->Int} (g:qda cf):∀{a b:List α},(a.Pairwise λx y=>cf x y<0)->(b.Pairwise λx y=>cf x y<0)->(∀x,x∈a↔x∈b)->a=b
 | [],[],_,_,_=>rfl
 | [],y :: ys,_,_,h=>absurd ((h y).2 (by simp)) (by simp)
 | x :: xs,[],_,_,h=>absurd ((h x).1 (by simp)) (by simp)
 | x :: xs,y :: ys,ha,hb,h=>by
  obtain⟨r,v⟩:=List.pairwise_cons.1 ha;obtain⟨u,w⟩:=List.pairwise_cons.1 hb;have q:∀z,¬ cf z z<0:=λz=>by have:=g.refl z;omega
  have o:x=y:=by
   rcases List.mem_cons.1 ((h x).1 (by simp))with e | A
   .exact e
   rcases List.mem_cons.1 ((h y).2 (by simp))with e | hy
   .exact e.symm
   exact absurd (g.trans _ _ _ (r y hy) (u x A)) (q x)
  subst o;rw[qpq g v w λz=>?_]
  constructor
  .intro c
   rcases List.mem_cons.1 ((h z).1 (by simp[c]))with rfl | f
   .exact absurd (r z c) (q z)
   exact f
  intro c
  rcases List.mem_cons.1 ((h z).2 (by simp[c]))with rfl | f
  .exact absurd (u z c) (q z)
  exact f
def qcf:List Ed->List Ed->List Ed
 | [],bs=>bs
 | a :: xa,[]=>a :: xa
 | a :: xa,b :: bs=>if qbf a b<0 then a :: qcf xa (b :: bs) else if qbf a b=0 then b :: qcf xa bs else b :: qcf (a :: xa) bs
termination_by xa bs=>xa.length+bs.length
abbrev RiseE (l:List Ed):Prop:=l.Pairwise λa b=>qbf a b<0
theorem mrgE_nil (a:List Ed):qcf a []=a:=by cases a <;> simp[qcf]
theorem qiz:∀(c bs:List Ed) (e:Ed),e∈qcf c bs↔e∈c\/e∈bs
 | [],bs,e=>by simp[qcf]
 | a :: c,[],e=>by simp[qcf]
 | a :: c,b :: bs,e=>by
  rw[qcf]
  split
  .rw [List.mem_cons,qiz c (b :: bs) e,<- or_assoc,<- List.mem_cons]
  split
  .rename_i h;have:=qfc.eq _ _ h;subst this;rw[List.mem_cons,qiz c bs e,List.mem_cons,List.mem_cons]
   constructor
   .rintro (h | h | h) <;> simp[h]
   rintro((h | h) | (h | h)) <;> simp[h]
  rw[List.mem_cons,qiz (a :: c) bs e,List.mem_cons (a:=e) (b:=b)]
  constructor
  .rintro (h | h | h)
   .exact .inr (.inl h)
   .exact .inl h
   exact .inr (.inr h)
  rintro(h | h | h)
  .exact .inr (.inl h)
  .exact .inl h
  exact .inr (.inr h)
termination_by c bs=>c.length+bs.length
theorem qnh:∀(f bs:List Ed),RiseE f->RiseE bs->RiseE (qcf f bs)
 | [],bs,_,h=>by rw[qcf];exact h
 | a :: f,[],h,_=>by rw[qcf];exact h
 | a :: f,b :: bs,ha,hb=>by
  obtain⟨g,q⟩:=List.pairwise_cons.1 ha;obtain⟨o,r⟩:=List.pairwise_cons.1 hb;rw[qcf]
  split
  .rename_i h;refine List.pairwise_cons.2 ⟨λe c=>?_,qnh f (b :: bs) q hb⟩
   rcases(qiz _ _ _).1 c with c | c
   .exact g e c
   rcases List.mem_cons.1 c with rfl | c
   .exact h
   exact qfc.trans _ _ _ h (o e c)
  split
  .rename_i h;have:=qfc.eq _ _ h;subst this;refine List.pairwise_cons.2 ⟨λe c=>?_,qnh f bs q r⟩
   rcases(qiz _ _ _).1 c with c | c
   .exact g e c
   exact o e c
  rename_i v w;have u:qbf b a<0:=(qfc.sgn _ _).2 (by omega);refine List.pairwise_cons.2 ⟨λe c=>?_,qnh (a :: f) bs ha r⟩
  rcases(qiz _ _ _).1 c with c | c
  .rcases List.mem_cons.1 c with rfl | c
   .exact u
   exact qfc.trans _ _ _ u (g e c)
  exact o e c
termination_by f bs=>f.length+bs.length
theorem qnz:∀(c bs:List Ed),(qcf c bs).length<=c.length+bs.length
 | [],bs=>by simp[qcf]
 | a :: c,[]=>by simp[qcf]
 | a :: c,b :: bs=>by
  rw[qcf]
  split
  .have:=qnz c (b :: bs);simp only[List.length_cons]at this ⊢;omega
  split
  .have:=qnz c bs;simp only[List.length_cons]at this ⊢;omega
  have:=qnz (a :: c) bs;simp only[List.length_cons]at this ⊢;omega
termination_by c bs=>c.length+bs.length
def qdk (l:List Ed):List Ed:=if h:l.length<=1 then l else qcf (qdk (l.take (l.length / 2))) (qdk (l.drop (l.length / 2)))
termination_by l.length
decreasing_by
 .rw [List.length_take];omega
 rw[List.length_drop];omega
theorem qm1 {l:List Ed} (h:l.length<=1):qdk l=l:=by rw[qdk,dif_pos h]
theorem qs3 {l:List Ed} (h:¬ l.length<=1):qdk l=qcf (qdk (l.take (l.length / 2))) (qdk (l.drop (l.length / 2))):=by rw[qdk,dif_neg h]
theorem qny:∀(n:Nat) (l:List Ed),l.length<=n->RiseE (qdk l)/\(∀e,e∈qdk l↔e∈l)/\(qdk l).length<=l.length:=by
 intro n
 induction n with
 | zero =>
  intro l h;have:l=[]:=List.length_eq_zero_iff.1 (by omega);subst this;rw[qm1 (by simp)]
  simp
 | succ n ih =>
  intro l h
  by_cases c:l.length<=1
  .rw [qm1 c];refine⟨?_,λ_=>Iff.rfl,Nat.le_refl _⟩
   match l,c with
   | [],_=>exact List.Pairwise.nil
   | [x],_=>simp
  obtain⟨f,g,o⟩:=ih (l.take (l.length / 2)) (by rw[List.length_take];omega);obtain⟨q,r,u⟩:=ih (l.drop (l.length / 2)) (by rw[List.length_drop];omega);rw[qs3 c];refine⟨qnh _ _ f q,λe=>?_,?_⟩
  .rw [qiz,g,r,<- List.mem_append,List.take_append_drop]
  have:=qnz (qdk (l.take (l.length / 2))) (qdk (l.drop (l.length / 2)));rw[List.length_take]at o;rw[List.length_drop]at u;omega
def rEd (ls:List Lb) (a:Ar):Ed:=⟨a.f,(qc0 a.l ls:Nat),a.t⟩
theorem rEd_of {c:List Lb} (hi:Inc c) {e:Ed} {a:Ar} (h:EdOf c e a):e=rEd c a:=by
 obtain⟨q,r,w,u⟩:=h;obtain⟨o,g⟩:=List.getElem?_eq_some_iff.1 u
 have:qc0 a.l c=e.l.toNat:=qn0 (Nat.le_of_lt o) (λj v f=>by
  rw[<- g]
  exact List.pairwise_iff_getElem.1 hi j _ v o f) (λh=>by rw[g,qbe.refl];omega)
 cases e
 simp only[rEd,Ed.mk.injEq]at *;refine⟨q,?_,r⟩;rw[this];omega
def qji (n:Int) (rs:List Ar):Sy:=⟨n,rLs rs rs.length,qdk (rs.map (rEd (rLs rs rs.length)))⟩
theorem qu0 (n:Int) (rs:List Ar):qji n rs=qcv n rs:=by
 have c:Inc (qcv n rs).ls:=qtz (qn4 rs [] [] (by simp))
 have f:rLs rs rs.length=(qcv n rs).ls:=qpq qbe (qou rs _) c λx=>by
  rw[rLs_mem,List.take_length,qs8]
 have g:=qpj n rs
 have r:qdk (rs.map (rEd (rLs rs rs.length)))=(qcv n rs).es:=by
  obtain⟨u,v,_⟩:=qny _ (rs.map (rEd (rLs rs rs.length))) (Nat.le_refl _);refine qpq qfc u (qja qfc qk2 _ (qid qfc (edR (qas rs [] []).1 (qas rs [] []).2))) λe=>?_
  rw[v,List.mem_map]
  constructor
  .rintro ⟨a,o,rfl⟩;obtain⟨e,q,h⟩:=g.2 a o;have:=rEd_of c h;rw[f,<- this];exact q
  intro q;obtain⟨a,o,h⟩:=g.1 e q;exact⟨a,o,by rw[f];exact(rEd_of c h).symm⟩
 show Sy.mk n _ _=_;rw[r,f];rfl
end
section
/- The reference's place and insertLabel: walked. -/
open Go.Shelf
def memB (l:List Lb) (x:Lb):Bool:=decide (x∈l)
theorem pl_lo {l:List Lb} (hi:Inc l) {x:Lb} {h:Nat} (g:h<l.length) (f:qak l[h] x<0):∀k (c:k<l.length),k<h+1->qak l[k] x<0:=λk c o=>by
 by_cases e:k=h
 .subst e;exact f
 exact qbe.trans _ _ _ (List.pairwise_iff_getElem.1 hi k h c g (by omega)) f
theorem pl_hi {l:List Lb} (hi:Inc l) {x:Lb} {h:Nat} (g:h<l.length) (f:0<qak l[h] x):∀k (c:k<l.length),h<=k->0<qak l[k] x:=λk c o=>by
 by_cases e:k=h
 .subst e;exact f
 exact(qbe.sgn _ _).1 (qbe.trans _ _ _ ((qbe.sgn _ _).2 f) (List.pairwise_iff_getElem.1 hi h k g c (by omega)))
theorem pl_eq {l:List Lb} (hi:Inc l) {x:Lb} {h:Nat} (c:h<l.length) (g:qak l[h] x=0):qc0 x l=h/\memB l x=true:=by
 have e:=qbe.eq _ _ g;refine⟨qn0 (Nat.le_of_lt c) (λj o f=>?_) (λ_=>by rw[g];omega),decide_eq_true (by rw[<- e];exact List.getElem_mem c)⟩;rw[<- e];exact List.pairwise_iff_getElem.1 hi j h o c f
theorem pl_end {l:List Lb} {x:Lb} {i:Nat} (o:i<=l.length) (f:∀k (c:k<l.length),k<i->qak l[k] x<0) (g:∀k (c:k<l.length),i<=k->0<qak l[k] x):qc0 x l=i/\memB l x=false:=by
 refine⟨qn0 o f (λh=>by have:=g i h (Nat.le_refl _);omega),decide_eq_false λq=>?_⟩;obtain⟨k,c,e⟩:=List.getElem_of_mem q
 rcases Nat.lt_or_ge k i with h | h
 .have:=f k c h;rw[e,qbe.refl]at this;omega
 have:=g k c h;rw[e,qbe.refl]at this;omega
theorem place_c (S:Nat->Prop) (l:List Lb) (hi:Inc l) (x:Lb) (v:Value) (cx:List Value) (w:World) (V:qaa S w l [v]) (hx:RLb S w x cx) (hn:l.length<=4611686018427387903) :
  Calls Tryz.prog 270 #[v,.agg cx.toArray] w λe w'=>e = .returned (.tuple #[.int .i64 (qc0 x l:Nat),.bool (memB l x)])/\Ext w w':=by
 have HX:=Hd V;have J:=Hd hx;have HI:=Hd hi;obtain⟨A,c,rfl,hc,ag⟩:=V.val;obtain⟨_,vx,rfl,af⟩:=id hx;obtain⟨X,I⟩:=nm (x.g);rw[I];rw[I]at J;obtain⟨M,F⟩:=nm (w.alloc (.cells #[.int .i64 X,vx] 61));have N:qaf M w.heap.size 61 [.int .i64 X,vx]:=by rw[<- F];exact qaf.new w 61 _
 have O:Ext w M:=by rw[<- F];exact(Ext.refl w).alloc _
 have aa:=Hd N;have ab:=Hd O;have ac:=Hd F;clear V hx af I N O F hi
 go_enter Tryz.func270,Tryz.ntmps270
 go_upto_region 1 with (fail)
 rw[ac.out]
 go_wp2_with fail
 go_loopw [6,7] (λvi vj wr=>∃i j:Nat,i<=j/\j<=l.length/\vi = .int .i64 i/\vj = .int .i64 j/\Ext M wr/\Hid ((∀k (hk:k<l.length),k<i->qak l[k] x<0)/\∀k (hk:k<l.length),j<=k->0<qak l[k] x)) (λvi vj _=>((intOf vj)-(intOf vi)).toNat)
 case atStart=>exact⟨0,l.length,Nat.zero_le _,Nat.le_refl _,rfl,rfl,Ext.refl _,λk hk h=>absurd h (by omega),λk hk h=>absurd hk (by omega)⟩
 obtain⟨i,j,ah,hj,rfl,rfl,Y,G⟩:=hrel;have E:Ext w wr:=ab.out.trans' Y;have T:=aa.out.ext Y;obtain⟨y0,y1,yz⟩:=c2 T;clear T
 by_cases ai:i<j
 .obtain ⟨h,hh⟩:=nm ((i+j) / 2);have q1:((i:Int)+(j:Int)) / 2=(h:Int):=by omega
  have q3:((i:Int)+(j:Int)).tdiv 2=(h:Int):=by rw[Int.tdiv_eq_ediv_of_nonneg (by omega)];exact q1
  have hm:h<l.length:=by omega
  have aj:i<=h:=by omega
  have ak:h<j:=by omega
  clear hh;obtain⟨b,am,cs,rfl,hb,hS,V,hr,C⟩:=(qaa.good.bel HX.out E).get h hm;have f:=λW (hW:Ext wr W)=>qmx S _ x _ _ W (RLb.good.bel hr hW) (RLb.good.bel J.out (E.trans' hW))
  obtain⟨_,v3,rfl,ae⟩:=id hr;obtain⟨a0,a1⟩:=g2 C;have z1:(0:Int)<=(h:Int):=by omega
  have z2:(h:Int)<(l.length:Int):=by omega
  have z:=Hd (pl_lo HI.out (x:=x) hm);have u:=Hd (pl_hi HI.out (x:=x) hm);have r:=Hd (pl_eq HI.out (x:=x) hm);obtain⟨q,hq⟩:=nm (qak l[h] x);rw[hq]at f z u r;obtain⟨g1,U⟩:=nm (l[h].g);rw[U]at f a0;have o:∀(y:World),Ext wr (qam wr y):=λy=>qa7 _ y
  clear C V hS hr ae hq U
  rcases Int.lt_trichotomy q 0 with B | B | B
  .have ad:(q == 0)=false:=beq_eq_false_iff_ne.2 (by omega);have HN:=Hd (z.out B);clear z u r
   go_wp2_with fail
   (refine qap ?_;(repeat (first | go_big_quiet_step ((go_at_call 172;exact qaq (f _ (o _)))) | quiet_step ((go_at_call 172;exact qaq (f _ (o _))))));refine wpQuiet_nil ?_)
   intro w4 D
   go_wp2_with fail
   go_roundw
   case rel=>exact⟨h+1,j,by omega,hj,by go_num,rfl,Y.trans' D,HN.out,G.out.2⟩
   simp[intOf];omega
  .subst B;have L:=Hd (r.out rfl);clear z u r
   go_wp2_with fail
   (refine qap ?_;(repeat (first | go_big_quiet_step ((go_at_call 172;exact qaq (f _ (o _)))) | quiet_step ((go_at_call 172;exact qaq (f _ (o _))))));refine wpQuiet_nil ?_)
   intro w4 D
   go_wp2_with fail
   go_ret2;exact⟨by rw[L.out.1,L.out.2];rfl,E.trans' D⟩
  have ad:(q == 0)=false:=beq_eq_false_iff_ne.2 (by omega);have al:¬ q<0:=by omega
  have HN:=Hd (u.out B);clear z u r
  go_wp2_with fail
  (refine qap ?_;(repeat (first | go_big_quiet_step ((go_at_call 172;exact qaq (f _ (o _)))) | quiet_step ((go_at_call 172;exact qaq (f _ (o _))))));refine wpQuiet_nil ?_)
  intro w4 D
  go_wp2_with fail
  go_roundw
  case rel=>exact⟨i,h,by omega,by omega,rfl,rfl,Y.trans' D,G.out.1,HN.out⟩
  simp[intOf];omega
 obtain rfl:i=j:=by omega
 have L:=Hd (pl_end hj G.out.1 G.out.2)
 go_wp2_with fail
 go_ret2;exact⟨by rw[L.out.1,L.out.2];rfl,E⟩
def shG (l:List Lb) (x:Lb) (i:Nat):List Lb:=(l++[x]).take (i+1)++l.drop i
theorem shG_len {l:List Lb} {x:Lb} {i:Nat} (h:i<=l.length):(shG l x i).length=l.length+1:=by
 simp only[shG,List.length_append,List.length_take,List.length_drop,List.length_cons,List.length_nil];omega
theorem shG_top (l:List Lb) (x:Lb):shG l x l.length=l++[x]:=by
 rw[shG,List.drop_length,List.append_nil,List.take_of_length_le (by simp)]
theorem shG_get {l:List Lb} {x:Lb} {i:Nat} (h:i+1<=l.length) (c:i<(shG l x (i+1)).length):(shG l x (i+1))[i]=l[i]:=by
 simp only[shG];rw[List.getElem_append_left (by simp;omega),List.getElem_take,List.getElem_append_left]
theorem shG_step {l:List Lb} {x:Lb} {i:Nat} (h:i+1<=l.length):(shG l x (i+1)).set (i+1) l[i]=shG l x i:=by
 have c:(l++[x]).length=l.length+1:=by simp
 unfold shG;rw[List.take_succ_eq_append_getElem (i:=i+1) (by omega),List.append_assoc,List.set_append_right _ _ (by simp;omega)]
 congr 1
 rw[List.length_take,show i+1-min (i+1) (l++[x]).length=0 by omega,List.singleton_append,List.set_cons_zero,<- List.drop_eq_getElem_cons (by omega)]
theorem shG_end {l:List Lb} {x:Lb} {i:Nat} (h:i<=l.length):(shG l x i).set i x=l.take i++x :: l.drop i:=by
 have c:(l++[x]).length=l.length+1:=by simp
 unfold shG;rw[List.take_succ_eq_append_getElem (i:=i) (by omega),List.append_assoc,List.set_append_right _ _ (by simp;omega),List.take_append_of_le_length h]
 congr 1
 rw[List.length_take,show i-min i l.length=0 by omega,List.singleton_append,List.set_cons_zero]
theorem info61p:(Tryz.prog.info? 61).map (λi=>(i.zero,i.size,i.bytes))=some (some (.agg #[.int .i64 0,.slice none 0 0]),2,32):=by kernel_rfl
def LInsPost (base:Nat) (T:Nat->Prop) (r:List Lb) (v:Value) (w:World) (e:Ending) (w':World):Prop :=
 ∃A c,e = .returned (.slice A r.length c)/\qab RLb 2 61 base T w' r (.slice A r.length c)/\Bt (λq=>v.ownBlock=some q) w w'/\∀q,(Value.slice A r.length c).ownBlock=some q->v.ownBlock=some q\/w.heap.size<=q
theorem qxh (y:Nat) (T:Nat->Prop) (l:List Lb) (hi:Inc l) (x:Lb) (v:Value) (cx:List Value) (w:World) (D:qab RLb 2 61 y T w l v) (hx:RLb (λb=>T b/\v.ownBlock≠some b) w x cx) (aj:y<=w.heap.size) (hl:l.length<=100000) :
  Calls Tryz.prog 269 #[v,.agg cx.toArray] w (LInsPost y T (qed l x) v w):=by
 obtain⟨A,c,rfl,hc,aW⟩:=(D.sl RLb.good (by decide)).val;have HO:=Hd D;have HX:=Hd hx;have B:=qaa.good.mono (D.sl RLb.good (by decide)) (S':=λ_=>True) λ_ _ _=>trivial
 have M:=λW (hW:Ext w W)=>place_c (λ_=>True) l hi x _ _ W (qaa.good.bel B hW) (RLb.good.bel (RLb.good.mono hx λ_ _ _=>trivial) hW) (by omega)
 obtain⟨_,vx,rfl,aF⟩:=id hx;obtain⟨V,nx,Y,rfl⟩:∃A n c,vx = .slice A n c:=by obtain⟨A,c,h,_⟩:=aF.val;exact⟨A,_,c,h⟩
 obtain⟨gx,ac⟩:=nm (x.g);rw[ac]at M;have O:=qmq x l;have X:Hid (memB l x=true->qed l x=l):=λh=>by rw[qed,if_pos (of_decide_eq_true h)]
 have I:Hid (memB l x=false->qed l x=l.take (qc0 x l)++x :: l.drop (qc0 x l)):=λh=>by rw[qed,if_neg (of_decide_eq_false h)]
 obtain⟨i,az⟩:=nm (qc0 x l);rw[az]at M O I;obtain⟨bm,aw⟩:=nm (memB l x);rw[aw]at M X I;rw[ac];have HG:=Hd ac;obtain⟨W0,aa⟩:=nm (w.alloc (.cells #[.int .i64 gx,.slice V nx Y] 61));have J:qaf W0 w.heap.size 61 [.int .i64 gx,.slice V nx Y]:=by rw[<- aa];exact qaf.new w 61 _
 have ah:Ext w W0:=by rw[<- aa];exact(Ext.refl w).alloc _
 have N:=M W0 ah;have y0:=J.cell 0 _;have y1:=J.cell 1 _;have yz:=J.lt;have aq:=Hd J;have ag:=Hd ah;have aL:=Hd aa;clear D hx aF ac J ah aa hi B M az aw
 go_enter Tryz.func269,Tryz.ntmps269
 go_upto_region 1 with (fail)
 rw[aL.out]
 rcases Bool.eq_false_or_eq_true bm with r | r
 .subst r;have HV:=Hd (X.out rfl);clear X I
  go_wp2_with fail
  refine N.mono ?_;rintro e w4 ⟨rfl,U⟩;clear y0 y1 yz
  go_wp2_with fail
  go_ret;rw[HV.out];exact⟨_,_,rfl,HO.out.ext RLb.good (ag.out.trans' U),(ag.out.trans' U).bt,λq h=>.inl h⟩
 subst r;have HV:=Hd (I.out rfl);clear X I
 go_wp2_with fail
 refine N.mono ?_;rintro e w4 ⟨rfl,U⟩;have z:Ext w w4:=ag.out.trans' U;have E:=Hd (aq.out.ext U);have y0:=E.out.cell 0 _;have y1:=E.out.cell 1 _;have yz:=E.out.lt
 have av:Hid (RLb (λb=>T b/\(Value.slice A l.length c).ownBlock≠some b) w4 x [.int .i64 gx,.slice V nx Y]):=by
  show RLb _ _ _ _;rw[<- HG.out];exact RLb.good.bel HX.out z
 obtain⟨o,c2,w5,aB,al,ai,ae,aQ⟩:=qcw RLb.good (by decide) y 61 22 (.agg #[.int .i64 0,.slice none 0 0]) 32 Tryz.underlying22 info61p rfl (by decide) T w4 l (.slice A l.length c) x [.int .i64 gx,.slice V nx Y] (HO.out.ext RLb.good z) av.out (Nat.le_trans aj z.size) (by omega);have aJ:=Hd al;have F:=Hd ae;have am:∀q,(Value.slice A l.length c).ownBlock=some q->q<w.heap.size:=λq h=>(HO.out.own_lt h).2
 have ar:Hid (Bt (λq=>(Value.slice A l.length c).ownBlock=some q\/q=o) w w5):=(z.bt.trans ai).mono λq _ h=>.inl h
 have au:Hid (qaf w5 w.heap.size 61 [.int .i64 gx,.slice V nx Y]):=E.out.bt ai λh=>by have:=am _ h;omega
 have ax:o≠w.heap.size:=λe=>by
  rcases F.out with h | h
  .have:=am _ h;omega
  have h1:=E.out.lt;omega
 have aR:o<w5.heap.size:=by
  obtain⟨u,u',hu,_⟩:=qab.get2 al 0 (by simp);exact World.block_lt_of_cell? _ _ hu
 obtain⟨p0,an⟩:=nm (w.heap.size);have aK:=Hd an;rw[an]at au ax yz y0 y1 E;clear al ai ae aQ am N an aq;have aS:i<=l.length:=O;clear O;rw[aK.out]
 go_wp2_with (at_builtin;refine wpList_append_run rfl _ _ _ rfl _ _ _ rfl rfl aB ?_;clear aB)
 clear y0 y1 yz
 go_loopw [7] (λvi wr=>∃k:Nat,i<=k/\k<=l.length/\vi = .int .i64 k/\Bt (λq=>q=o) w5 wr/\Hid (qab RLb 2 61 y T wr (shG l x k) (.slice (some ⟨o,0,none⟩) (l.length+1) c2))) (λvi _=>(intOf vi).toNat)
 case atStart=>exact⟨l.length,aS,Nat.le_refl _,by go_num,Bt.refl _ _,by rw[shG_top];exact aJ.out⟩
 obtain⟨k,aY,ak,rfl,r,C⟩:=hrel;have aX:o<wr.heap.size:=Nat.lt_of_lt_of_le aR r.size;have ab:=au.out.bt r (λe=>ax e.symm);have y0:=ab.cell 0 _;have y1:=ab.cell 1 _;have yz:=ab.lt;clear ab
 by_cases aZ:i<k
 .obtain ⟨m,ad⟩:∃m,k=m+1:=⟨k-1,by omega⟩
  have a1:m<l.length:=by omega
  have B:=shG_len (x:=x) ak;have aD:(shG l x k).set k l[m]=shG l x m:=by subst ad;exact shG_step (by omega)
  have aC:∀hh,(shG l x k)[m]'hh=l[m]:=by subst ad;exact λhh=>shG_get (by omega) hh
  have aU:(k:Int)-1=(m:Int):=by omega
  have aI:=Hd ad;obtain⟨u,u',gc,aV,hu,-,-⟩:=qab.get2 C.out m (by omega)
  have ao:RLb (λb=>T b/\b≠o) wr l[m] [u,u']:=by
   rw[aC (by omega)]at hu;exact hu
  obtain⟨_,vu,e1,aE⟩:=id ao;simp only[List.cons.injEq,and_true]at e1;obtain⟨rfl,rfl⟩:=e1;obtain⟨Av,nv,cw,rfl⟩:∃A n c,u' = .slice A n c:=by obtain⟨A,c,h,_⟩:=aE.val;exact⟨A,_,c,h⟩
  obtain⟨u3,u4,aM,aN,-,aO,aP⟩:=qab.get2 C.out k (by omega);have f:=qab.putLb C.out (by rw[B]) k (by omega) l[m] (.slice Av nv cw) ao;rw[aD]at f;obtain⟨gu,ay⟩:=nm (l[m].g);rw[ay]at gc f;have G:=Hd f;have af:Hid (Bt (λq=>q=o) w5 ((wr.setCell ⟨o,k*2,none⟩ (.int .i64 gu)).setCell ⟨o,k*2+1,none⟩ (.slice Av nv cw))):=(r.set (Z:=λq=>q=o) (p:=⟨o,k*2,none⟩) (.inr rfl) _).set (Z:=λq=>q=o) (p:=⟨o,k*2+1,none⟩) (.inr rfl) _;have z3:(0:Int)<=(m:Int):=by omega
  have z4:(m:Int)<((l.length+1:Nat):Int):=by omega
  have z5:(0:Int)<=(k:Int):=by omega
  have z6:(k:Int)<((l.length+1:Nat):Int):=by omega
  have z7:(i:Int)<(k:Int):=by omega
  have aT:i<=m:=by omega
  have aA:m<=l.length:=by omega
  clear f hu ao B C ay aD aE ad aC
  go_wp2_with fail
  go_roundw
  case rel=>exact⟨m,aT,aA,by go_num,af.out,G.out⟩
  have:=aI.out;simp[intOf];omega
 obtain rfl:k=i:=by omega
 have B:=shG_len (x:=x) ak;obtain⟨u3,u4,aM,aN,-,aO,aP⟩:=qab.get2 C.out k (by omega)
 have aG:RLb (λb=>T b/\b≠o) wr x [.int .i64 x.g,.slice V nx Y]:=by
  have h0:=av.out;rw[<- HG.out]at h0;have h1:RLb (λb=>(T b/\(Value.slice A l.length c).ownBlock≠some b)/\b<w.heap.size) w x [.int .i64 x.g,.slice V nx Y]:=RLb.good.mono HX.out λb hb h=>⟨h,hb⟩
  have h2:Kp (λb=>(T b/\(Value.slice A l.length c).ownBlock≠some b)/\b<w.heap.size) w wr:=(ar.out.trans (r.mono λq _ h=>.inr h)).kp λq hq ⟨⟨_,h1⟩,h2⟩ h=>by
   rcases h with h | rfl
   .exact h1 h
   rcases F.out with h | h
   .exact h1 h
   have:=z.size;omega
  refine RLb.good.mono (RLb.good.move h1 h2) λb hb ⟨⟨h3,h4⟩,h5⟩=>⟨h3,?_⟩
  rintro rfl
  rcases F.out with h | h
  .exact h4 h
  have:=z.size;omega
 have f:=qab.putLb C.out (by rw[B]) k (by omega) x (.slice V nx Y) aG;rw[shG_end ak,<- HV.out,HG.out]at f
 have L:(qed l x).length=l.length+1:=by
  rw[HV.out];simp only[List.length_append,List.length_take,List.length_drop,List.length_cons];omega
 rw[<- L]at f;have G:=Hd f
 have af:Hid (Bt (λq=>(Value.slice A l.length c).ownBlock=some q) w ((wr.setCell ⟨o,k*2,none⟩ (.int .i64 gx)).setCell ⟨o,k*2+1,none⟩ (.slice V nx Y))):=by
  refine(((ar.out.trans (r.mono λq _ h=>.inr h)).set (Z:=λq=>(Value.slice A l.length c).ownBlock=some q\/q=o) (p:=⟨o,k*2,none⟩) (.inr (.inr rfl)) _).set (Z:=λq=>(Value.slice A l.length c).ownBlock=some q\/q=o) (p:=⟨o,k*2+1,none⟩) (.inr (.inr rfl)) _).mono λq hq h=>?_
  rcases h with h | rfl
  .exact h
  rcases F.out with h | h
  .exact h
  have:=z.size;omega
 have aH:=Hd L
 have ap:Hid (∀q,some o=some q->(Value.slice A l.length c).ownBlock=some q\/w.heap.size<=q):=λq h=>by
  injection h with h
  subst h
  rcases F.out with h | h
  .exact .inl h
  have:=z.size;exact .inr (by omega)
 have z4:(k:Int)<((l.length+1:Nat):Int):=by omega
 have z5:(0:Int)<=(k:Int):=by omega
 clear f aG B C L
 go_wp2_with fail
 go_ret;refine⟨some ⟨o,0,none⟩,c2,by rw[aH.out];rfl,G.out,af.out,λq h=>ap.out q h⟩
end
section
/- The reference's mergeEdges and sortEdges: walked. -/
open Go.Shelf
theorem info88m:(Tryz.prog.info? 88).map (λi=>(i.zero,i.size,i.bytes))=some (some (.agg #[.int .i64 0,.int .i64 0,.int .i64 0]),3,24):=by kernel_rfl
theorem drop_at {α:Type} {l:List α} {i:Nat} (h:i<l.length):l.drop i=l[i] :: l.drop (i+1):=List.drop_eq_getElem_cons h
def qf2 (xa bs out:List Ed) (i k:Nat):Prop:=out++qcf (xa.drop i) (bs.drop k)=qcf xa bs/\out.length<=i+k
theorem mrg_left {f bs c:List Ed} {i k:Nat} (h:qf2 f bs c i k) (hi:i<f.length) (q:k<bs.length) (o:qbf f[i] bs[k]<0):qf2 f bs (c++[f[i]]) (i+1) k:=by
 obtain⟨g,r⟩:=h;refine⟨?_,by rw[List.length_append,List.length_singleton];omega⟩;rw[<- g,drop_at hi,drop_at q,qcf,if_pos o,List.append_assoc];rfl
theorem mrg_lone {f bs c:List Ed} {i k:Nat} (h:qf2 f bs c i k) (hi:i<f.length) (o:¬ k<bs.length):qf2 f bs (c++[f[i]]) (i+1) k:=by
 obtain⟨g,q⟩:=h;refine⟨?_,by rw[List.length_append,List.length_singleton];omega⟩;rw[List.drop_eq_nil_of_le (Nat.le_of_not_lt o),mrgE_nil]at g ⊢;rw[<- g,drop_at hi,List.append_assoc];rfl
theorem mrg_both {f bs c:List Ed} {i k:Nat} (h:qf2 f bs c i k) (hi:i<f.length) (q:k<bs.length) (o:qbf f[i] bs[k]=0):qf2 f bs (c++[bs[k]]) (i+1) (k+1):=by
 obtain⟨g,r⟩:=h;refine⟨?_,by rw[List.length_append,List.length_singleton];omega⟩;rw[<- g,drop_at hi,drop_at q,qcf,if_neg (by omega),if_pos o,List.append_assoc];rfl
theorem mrg_right {f bs c:List Ed} {i k:Nat} (h:qf2 f bs c i k) (hi:i<f.length) (q:k<bs.length) (o:¬ qbf f[i] bs[k]<0) (r:qbf f[i] bs[k]≠0):qf2 f bs (c++[bs[k]]) i (k+1):=by
 obtain⟨g,u⟩:=h;refine⟨?_,by rw[List.length_append,List.length_singleton];omega⟩;rw[<- g,drop_at hi,drop_at q,qcf,if_neg o,if_neg r,List.append_assoc];rfl
theorem mrg_rone {f bs c:List Ed} {i k:Nat} (h:qf2 f bs c i k) (hi:¬ i<f.length) (o:k<bs.length):qf2 f bs (c++[bs[k]]) i (k+1):=by
 obtain⟨g,q⟩:=h;refine⟨?_,by rw[List.length_append,List.length_singleton];omega⟩;rw[<- g,drop_at o,List.drop_eq_nil_of_le (Nat.le_of_not_lt hi),qcf,qcf,List.append_assoc];rfl
theorem mrg_end {f bs c:List Ed} {i k:Nat} (h:qf2 f bs c i k) (hi:¬ i<f.length) (o:¬ k<bs.length):c=qcf f bs:=by
 have g:=h.1;rw[List.drop_eq_nil_of_le (Nat.le_of_not_lt hi),List.drop_eq_nil_of_le (Nat.le_of_not_lt o),qcf,List.append_nil]at g;exact g
def MrgPost (r:List Ed) (w:World) (e:Ending) (w':World):Prop:=∃A c,e = .returned (.slice A r.length c)/\qab REd 3 88 w.heap.size (λ_=>False) w' r (.slice A r.length c)/\Ext w w'
theorem qxn (S:Nat->Prop) (xa bs:List Ed) (va vb:Value) (w:World) (ha:qa3 S w xa [va]) (hb:qa3 S w bs [vb]) (aG:xa.length<=400000) (aH:bs.length<=400000) :
  Calls Tryz.prog 286 #[va,vb] w (MrgPost (qcf xa bs) w):=by
 obtain⟨A,c,rfl,hc,aE⟩:=ha.val;obtain⟨B,d,rfl,hd,aF⟩:=hb.val;have HA:=Hd ha;have HB:=Hd hb;clear ha hb
 go_enter Tryz.func286,Tryz.ntmps286
 go_wp2_with fail
 go_loopw [5,6,7] (λvo vi vk wr=>∃(i k:Nat) (v:List Ed) (Ao:Option Addr) (co:Nat),i<=xa.length/\k<=bs.length/\vi = .int .i64 i/\vk = .int .i64 k/\vo = .slice Ao v.length co/\Ext w wr/\Hid (qab REd 3 88 w.heap.size (λ_=>False) wr v (.slice Ao v.length co))/\Hid (qf2 xa bs v i k)) (λ_ vi vk _=>xa.length+bs.length-(intOf vi).toNat-(intOf vk).toNat)
 case atStart=>exact⟨0,0,[],none,0,Nat.zero_le _,Nat.zero_le _,rfl,rfl,rfl,Ext.refl _,qab.nil ..,by simp[qf2,Hid]⟩
 obtain⟨i,k,v,Ao,co,hi,hk,rfl,rfl,rfl,hE,hO,hM⟩:=hrel;have HE:=Hd hE;have aB:v.length<=1000000:=by have:=hM.out.2;omega
 have ax:∀q,(Value.slice Ao v.length co).ownBlock=some q->w.heap.size<=q:=λq e=>(hO.out.own_lt e).1
 have C:=Hd (λ(W:World) (hW:Ext wr W) (O T U:Int) (hx:I64 O/\I64 T/\I64 U)=>qcw REd.good (by decide) w.heap.size 88 23 (.agg #[.int .i64 0,.int .i64 0,.int .i64 0]) 24 Tryz.underlying23 info88m rfl (by decide) (λ_=>False) W v (.slice Ao v.length co) ⟨O,T,U⟩ [.int .i64 O,.int .i64 T,.int .i64 U] (hO.out.ext REd.good hW) ⟨hx.1,hx.2.1,hx.2.2,rfl⟩ (Nat.le_trans hE.size hW.size) aB);have aj:=Hd ax;have ad:=Hd (λD E hc=>mrg_left (i:=i) (k:=k) hM.out D E hc);have ae:=Hd (λD E=>mrg_lone (i:=i) (k:=k) hM.out D E);have af:=Hd (λD E hc=>mrg_both (i:=i) (k:=k) hM.out D E hc);have ag:=Hd (λD E hc hz=>mrg_right (i:=i) (k:=k) hM.out D E hc hz);have ah:=Hd (λD E=>mrg_rone (i:=i) (k:=k) hM.out D E);have ai:=Hd (λD E=>mrg_end (i:=i) (k:=k) hM.out D E);clear ax hE
 by_cases V:i<xa.length
 .obtain ⟨b1,o1,aD,rfl,X,ar,aw,an,al⟩:=(qa3.good.bel HA.out HE.out).get i V;obtain⟨j1,j2,j3,rfl⟩:=id an;have a0:=al.get 0 _;have a1:=al.get 1 _;have a2:=al.get 2 _;simp only[Nat.add_zero]at a0;have i1:(0:Int)<=(i:Int):=by omega
  have i2:(i:Int)<(xa.length:Int):=by omega
  have ap:i+1<=xa.length:=V
  by_cases M:k<bs.length
  .obtain ⟨b2,o2,aA,rfl,ab,ao,aq,g,N⟩:=(qa3.good.bel HB.out HE.out).get k M;obtain⟨m1,m2,m3,rfl⟩:=id g;have d0:=N.get 0 _;have d1:=N.get 1 _;have d2:=N.get 2 _;simp only[Nat.add_zero]at d0;have k1:(0:Int)<=(k:Int):=by omega
   have k2:(k:Int)<(bs.length:Int):=by omega
   have k3:¬ bs.length<=k:=by omega
   have am:k+1<=bs.length:=M;have z:=λW (hW:Ext wr W)=>Ahead_c (λ_=>True) xa[i] bs[k] _ _ W (REd.good.bel (REd.good.mono an λ_ _ _=>trivial) hW) (REd.good.bel (REd.good.mono g λ_ _ _=>trivial) hW)
   have F:=Hd (ad.out V M);have G:=Hd (af.out V M);have I:=Hd (ag.out V M);have av:xa[i]=bs[k]↔qbf xa[i] bs[k]=0:=(qfc.iff _ _).symm;have aa:=Hd av;obtain⟨⟨O,T,U⟩,hx⟩:∃x,xa[i]=x:=⟨_,rfl⟩
   obtain⟨⟨yf,yl,yt⟩,hy⟩:∃y,bs[k]=y:=⟨_,rfl⟩
   rw[hx]at F G I aa;rw[hy]at F G I aa;rw[hx,hy]at z;rw[hx]at a0 a1 a2 j1 j2 j3;rw[hy]at d0 d1 d2 m1 m2 m3;simp only at a0 a1 a2 j1 j2 j3 d0 d1 d2 m1 m2 m3 z;have HJ:Hid (I64 O/\I64 T/\I64 U):=⟨j1,j2,j3⟩
   have HK:Hid (I64 yf/\I64 yl/\I64 yt):=⟨m1,m2,m3⟩
   have ac:∀(y:World),Ext wr (qam wr y):=λy=>qa7 _ y
   clear al N an g ar aw ao aq j1 j2 j3 m1 m2 m3 hx hy av ad ae af ag ah ai V M
   by_cases hq:qbf ⟨O,T,U⟩ ⟨yf,yl,yt⟩<0
   .have HN:=Hd (F.out hq);rw[decide_eq_true hq]at z;clear F G I aa hq
    go_wp2_with fail
    (refine qap ?_;(repeat (first | go_big_quiet_step ((go_at_call 223;exact qaq (z _ (ac _)))) | quiet_step ((go_at_call 223;exact qaq (z _ (ac _))))));refine wpQuiet_nil ?_)
    intro w4 f;have e0:=Ext.keep f a0;have e1:=Ext.keep f a1;have e2:=Ext.keep f a2;have ak:b1<w4.heap.size:=Nat.lt_of_lt_of_le X f.size;obtain⟨g2,c2,w5,g,u,r,_,_⟩:=C.out w4 f O T U HJ.out;have L:=Hd u;have J:Hid (Ext w w5):=Bt.new (HE.out.trans' f) r λq _ h=>aj.out q h
    clear u r z a0 a1 a2 X C hO hM
    go_wp2_with (at_builtin;refine wpList_append_run rfl _ _ _ rfl _ _ _ rfl rfl g ?_;clear g)
    go_roundw
    case rel=>exact⟨i+1,k,v++[⟨O,T,U⟩],some ⟨g2,0,none⟩,c2,ap,hk,by go_num,rfl,by simp,J.out,(by have h:=L.out;show qab _ _ _ _ _ _ _ _;simpa using h),HN⟩
    simp[intOf];omega
   rw[decide_eq_false hq]at z
   by_cases hz:O=yf/\T=yl/\U=yt
   .obtain ⟨rfl,rfl,rfl⟩:=hz;have HN:=Hd (G.out (aa.out.1 rfl));clear F G I aa hq
    go_wp2_with fail
    (refine qap ?_;(repeat (first | go_big_quiet_step ((go_at_call 223;exact qaq (z _ (ac _)))) | quiet_step ((go_at_call 223;exact qaq (z _ (ac _))))));refine wpQuiet_nil ?_)
    intro w4 f;have e0:=Ext.keep f a0;have e1:=Ext.keep f a1;have e2:=Ext.keep f a2;have f0:=Ext.keep f d0;have f1:=Ext.keep f d1;have f2:=Ext.keep f d2;have ak:b1<w4.heap.size:=Nat.lt_of_lt_of_le X f.size;have Y:b2<w4.heap.size:=Nat.lt_of_lt_of_le ab f.size;clear z a0 a1 a2 d0 d1 d2 X ab hO hM
    go_wp2_with fail
    (refine qap ?_;(repeat (first | go_big_quiet_step ((fail)) | quiet_step ((fail))));refine wpQuiet_nil ?_)
    intro w6 o;have q0:=Ext.keep o f0;have q1:=Ext.keep o f1;have q2:=Ext.keep o f2;have au:b2<w6.heap.size:=Nat.lt_of_lt_of_le Y o.size;obtain⟨g2,c2,w5,g,u,r,_,_⟩:=C.out w6 (f.trans' o) O T U HJ.out;have L:=Hd u;have J:Hid (Ext w w5):=Bt.new (HE.out.trans' (f.trans' o)) r λq _ h=>aj.out q h
    clear u r C e0 e1 e2 f0 f1 f2 ak Y
    go_wp2_with (at_builtin;refine wpList_append_run rfl _ _ _ rfl _ _ _ rfl rfl g ?_;clear g)
    go_roundw
    case rel=>exact⟨i+1,k+1,v++[⟨O,T,U⟩],some ⟨g2,0,none⟩,c2,ap,am,by go_num,by go_num,by simp,J.out,(by have h:=L.out;show qab _ _ _ _ _ _ _ _;simpa using h),HN⟩
    simp[intOf];omega
   have az:qbf ⟨O,T,U⟩ ⟨yf,yl,yt⟩≠0:=λe=>hz (by
    have h:=aa.out.2 e;injection h with V M h3
    exact⟨V,M,h3⟩)
   have HN:=Hd (I.out hq az)
   have ay:qbw ⟨O,T,U⟩ ⟨yf,yl,yt⟩=false:=Bool.eq_false_iff.2 λh=>hz (by
    have h:=(qk2 _ _).1 h;injection h with V M h3
    exact⟨V,M,h3⟩)
   have aC:=λW=>qul W ⟨O,T,U⟩ ⟨yf,yl,yt⟩ false ay
   simp only at aC;clear ay;clear F G I aa hq az
   go_wp2_with fail
   (refine qap ?_;(repeat (first | go_big_quiet_step ((go_at_call 223;exact qaq (z _ (ac _)))) | quiet_step ((go_at_call 223;exact qaq (z _ (ac _))))));refine wpQuiet_nil ?_)
   intro w4 f;have e0:=Ext.keep f a0;have e1:=Ext.keep f a1;have e2:=Ext.keep f a2;have f0:=Ext.keep f d0;have f1:=Ext.keep f d1;have f2:=Ext.keep f d2;have ak:b1<w4.heap.size:=Nat.lt_of_lt_of_le X f.size;have Y:b2<w4.heap.size:=Nat.lt_of_lt_of_le ab f.size;clear z a0 a1 a2 d0 d1 d2 X ab hO hM
   go_wp2_with fail
   (refine qap ?_;(repeat (first | go_big_quiet_step ((fail)) | quiet_step ((fail))));refine wpQuiet_nil ?_)
   intro w6 o;have q0:=Ext.keep o f0;have q1:=Ext.keep o f1;have q2:=Ext.keep o f2;have au:b2<w6.heap.size:=Nat.lt_of_lt_of_le Y o.size;obtain⟨g2,c2,w5,g,u,r,_,_⟩:=C.out w6 (f.trans' o) yf yl yt HK.out;have L:=Hd u;have J:Hid (Ext w w5):=Bt.new (HE.out.trans' (f.trans' o)) r λq _ h=>aj.out q h
   clear u r C e0 e1 e2 f0 f1 f2 ak Y
   go_wp2_with (at_builtin;refine wpList_append_run rfl _ _ _ rfl _ _ _ rfl rfl g ?_;clear g)
   go_roundw
   case rel=>exact⟨i,k+1,v++[⟨yf,yl,yt⟩],some ⟨g2,0,none⟩,c2,hi,am,rfl,by go_num,by simp,J.out,(by have h:=L.out;show qab _ _ _ _ _ _ _ _;simpa using h),HN⟩
   simp[intOf];omega
  have HL:=Hd (ae.out V M);obtain⟨⟨O,T,U⟩,hx⟩:∃x,xa[i]=x:=⟨_,rfl⟩
  rw[hx]at HL a0 a1 a2 j1 j2 j3;simp only at a0 a1 a2 j1 j2 j3;have HJ:Hid (I64 O/\I64 T/\I64 U):=⟨j1,j2,j3⟩
  have k2:¬ (k:Int)<(bs.length:Int):=by omega
  have k3:bs.length<=k:=by omega
  clear al an ar aw j1 j2 j3 hx ad ae af ag ah ai V M
  go_wp2_with fail
  (refine qap ?_;(repeat (first | go_big_quiet_step ((fail)) | quiet_step ((fail))));refine wpQuiet_nil ?_)
  intro w4 f;have e0:=Ext.keep f a0;have e1:=Ext.keep f a1;have e2:=Ext.keep f a2;have ak:b1<w4.heap.size:=Nat.lt_of_lt_of_le X f.size;obtain⟨g2,c2,w5,g,u,r,_,_⟩:=C.out w4 f O T U HJ.out;have L:=Hd u;have J:Hid (Ext w w5):=Bt.new (HE.out.trans' f) r λq _ h=>aj.out q h
  clear u r a0 a1 a2 X C hO hM
  go_wp2_with (at_builtin;refine wpList_append_run rfl _ _ _ rfl _ _ _ rfl rfl g ?_;clear g)
  go_roundw
  case rel=>exact⟨i+1,k,v++[⟨O,T,U⟩],some ⟨g2,0,none⟩,c2,ap,hk,by go_num,rfl,by simp,J.out,(by have h:=L.out;show qab _ _ _ _ _ _ _ _;simpa using h),HL⟩
  simp[intOf];omega
 by_cases M:k<bs.length
 .obtain ⟨b2,o2,aA,rfl,ab,ao,aq,g,N⟩:=(qa3.good.bel HB.out HE.out).get k M;obtain⟨m1,m2,m3,rfl⟩:=id g;have d0:=N.get 0 _;have d1:=N.get 1 _;have d2:=N.get 2 _;simp only[Nat.add_zero]at d0;have k1:(0:Int)<=(k:Int):=by omega
  have k2:(k:Int)<(bs.length:Int):=by omega
  have k3:¬ bs.length<=k:=by omega
  have am:k+1<=bs.length:=M;have HL:=Hd (ah.out V M);obtain⟨⟨yf,yl,yt⟩,hy⟩:∃y,bs[k]=y:=⟨_,rfl⟩
  rw[hy]at HL d0 d1 d2 m1 m2 m3;simp only at d0 d1 d2 m1 m2 m3;have HK:Hid (I64 yf/\I64 yl/\I64 yt):=⟨m1,m2,m3⟩
  have i2:¬ (i:Int)<(xa.length:Int):=by omega
  have i3:¬ i<xa.length:=V;clear N g ao aq m1 m2 m3 hy ad ae af ag ah ai;clear V M
  go_wp2_with fail
  (refine qap ?_;(repeat (first | go_big_quiet_step ((fail)) | quiet_step ((fail))));refine wpQuiet_nil ?_)
  intro w4 f;have f0:=Ext.keep f d0;have f1:=Ext.keep f d1;have f2:=Ext.keep f d2;have Y:b2<w4.heap.size:=Nat.lt_of_lt_of_le ab f.size;clear d0 d1 d2 ab hO hM
  go_wp2_with fail
  (refine qap ?_;(repeat (first | go_big_quiet_step ((fail)) | quiet_step ((fail))));refine wpQuiet_nil ?_)
  intro w6 o;have q0:=Ext.keep o f0;have q1:=Ext.keep o f1;have q2:=Ext.keep o f2;have au:b2<w6.heap.size:=Nat.lt_of_lt_of_le Y o.size;obtain⟨g2,c2,w5,g,u,r,_,_⟩:=C.out w6 (f.trans' o) yf yl yt HK.out;have L:=Hd u;have J:Hid (Ext w w5):=Bt.new (HE.out.trans' (f.trans' o)) r λq _ h=>aj.out q h
  clear u r C f0 f1 f2 Y
  go_wp2_with (at_builtin;refine wpList_append_run rfl _ _ _ rfl _ _ _ rfl rfl g ?_;clear g)
  go_roundw
  case rel=>exact⟨i,k+1,v++[⟨yf,yl,yt⟩],some ⟨g2,0,none⟩,c2,hi,am,rfl,by go_num,by simp,J.out,(by have h:=L.out;show qab _ _ _ _ _ _ _ _;simpa using h),HL⟩
  simp[intOf];omega
 have HF:=Hd (ai.out V M);have i2:¬ (i:Int)<(xa.length:Int):=by omega
 have k2:¬ (k:Int)<(bs.length:Int):=by omega
 clear ad ae af ag ah ai C V M hM
 go_wp2_with fail
 go_ret;rw[<- HF.out];exact⟨Ao,co,rfl,hO.out,HE.out⟩
def SrtPost (S:Nat->Prop) (r:List Ed) (w:World) (e:Ending) (w':World):Prop:=∃A c,e = .returned (.slice A r.length c)/\qa3 (λb=>S b\/w.heap.size<=b) w' r [.slice A r.length c]/\Ext w w'
theorem RSl.part {α:Type} {R:Rdr α} {k:Nat} {S:Nat->Prop} {W:World} {xs:List α} {b f n c:Nat} (h:RSl R k S W xs [.slice (some ⟨b,f,none⟩) n c]) (i m d:Nat) (L:i+m<=xs.length) (C:m<=d) (D:d<=c) (v:0<xs.length) :
  RSl R k S W ((xs.drop i).take m) [.slice (some ⟨b,f+i*k,none⟩) m d]:=by
 obtain⟨A,G,e,I,J,w⟩:=h;injection e with e
 injection e with e1 e2 e3
 subst e1 e2 e3;have g:((xs.drop i).take m).length=m:=by rw[List.length_take,List.length_drop];omega
 refine⟨_,d,by rw[g],by rw[g];exact C,by omega,.inr ?_⟩
 rcases w with rfl | ⟨F,o,e,y,z,B⟩
 .simp at v
 injection e with e
 injection e with e1 e2
 subst e1 e2;refine⟨b,f+i*k,rfl,y,z,qc2.of_get λj E=>?_⟩;rw[g]at E;obtain⟨cs,q,r,u⟩:=B.get (i+j) (by omega);refine⟨cs,q,by rw[List.getElem_take,List.getElem_drop];exact r,?_⟩;rw[Nat.add_assoc,<- Nat.add_mul];exact u
theorem qy8:∀(N:Nat) (S:Nat->Prop) (l:List Ed) (v:Value) (w:World),l.length<=N->l.length<=400000->qa3 S w l [v]->Calls Tryz.prog 271 #[v] w (SrtPost S (qdk l) w):=by
 intro N
 induction N with
 | zero =>
  intro S l v w hN _ o;obtain⟨A,c,rfl,hc,D⟩:=o.val;have HX:=Hd (qa3.good.mono o (S':=λb=>S b\/w.heap.size<=b) λ_ _ h=>.inl h);have u:=Hd (qm1 (l:=l) (by omega));have I:(l.length:Int)<=1:=by omega
  clear o
  go_enter Tryz.func271,Tryz.ntmps271
  go_wp2_with fail
  go_ret;rw[u.out];exact⟨A,c,rfl,HX.out,Ext.refl w⟩
 | succ N ih =>
  intro S l v w hN hl o
  by_cases I:l.length<=1
  .obtain ⟨A,c,rfl,hc,D⟩:=o.val;have HX:=Hd (qa3.good.mono o (S':=λb=>S b\/w.heap.size<=b) λ_ _ h=>.inl h);have u:=Hd (qm1 (l:=l) I);have I:(l.length:Int)<=1:=by omega
   clear o
   go_enter Tryz.func271,Tryz.ntmps271
   go_wp2_with fail
   go_ret;rw[u.out];exact⟨A,c,rfl,HX.out,Ext.refl w⟩
  obtain⟨b,g,cs,rfl,hb,hS,al,hr,f⟩:∃b g cs,v = .slice (some ⟨b,g,none⟩) l.length cs/\b<w.heap.size/\S b/\l.length<=cs/\cs<=9223372036854775807/\qa3 S w l [.slice (some ⟨b,g,none⟩) l.length cs]:=by
   obtain⟨A,c,rfl,hc,D⟩:=o.val;obtain⟨b,g,cs,rfl,hb,hS,_,_,_⟩:=o.get 0 (by omega);exact⟨b,g,c,rfl,hb,hS,hc,D,o⟩
  obtain⟨h,hh⟩:=nm (l.length / 2);have u:=Hd (qs3 I);rw[hh]at u;have q1:((l.length:Int)).tdiv 2=(h:Int):=by rw[Int.tdiv_eq_ediv_of_nonneg (by omega)];omega
  have q2:(l.length:Int) / 2=(h:Int):=by omega
  have ak:0<h:=by omega
  have ag:h<l.length:=by omega
  have aj:¬ (l.length:Int)<=1:=by omega
  have z0:(0:Int)<=(h:Int):=by omega
  have z1:(h:Int)<=(cs:Int):=by omega
  have z2:(h:Int)<=(l.length:Int):=by omega
  have z3:(l.length:Int)<=(cs:Int):=by omega
  have ah:(l.take h).length=h:=by rw[List.length_take];omega
  have ai:(l.drop h).length=l.length-h:=List.length_drop
  have V:∀W,Ext w W->qa3 S W (l.take h) [.slice (some ⟨b,g,none⟩) h cs]:=λW B=>by
   have:=RSl.part (qa3.good.bel f B) 0 h cs (by omega) (by omega) (Nat.le_refl _) (by omega);simpa using this
  have Y:∀W,Ext w W->qa3 S W (l.drop h) [.slice (some ⟨b,g+h*3,none⟩) (l.length-h) (cs-h)]:=λW B=>by
   have:=RSl.part (qa3.good.bel f B) h (l.length-h) (cs-h) (by omega) (by omega) (by omega) (by omega)
   rwa [List.take_of_length_le (by omega)]at this
  have ha:=λW (B:Ext w W)=>ih S (l.take h) _ W (by omega) (by omega) (V W B)
  have C:=λW (B:Ext w W)=>ih S (l.drop h) _ W (by omega) (by omega) (Y W B)
  have J:=(qny _ (l.take h) (Nat.le_refl _)).2.2;have L:=(qny _ (l.drop h) (Nat.le_refl _)).2.2;obtain⟨ra,y⟩:=nm (qdk (l.take h));obtain⟨rb,z⟩:=nm (qdk (l.drop h));rw[y]at ha u J;rw[z]at C u L;have X:ra.length<=400000:=by omega
  have aa:rb.length<=400000:=by omega
  have HB:=Hd C;obtain⟨n,hn⟩:=nm (l.length);have HS:=Hd hS;rw[hn]at q1 q2 ag aj z2 z3 ⊢;rw[hn]at HB;have am:n<=400000:=by omega
  clear o f V Y y z ah ai J L hh C ih hn I hl hN
  go_enter Tryz.func271,Tryz.ntmps271
  go_wp2_with fail
  refine(ha _ (Ext.refl _)).mono ?_;rintro e w1 ⟨A1,c1,rfl,O,E⟩;have ad:=Hd O;have ae:=Hd E;have U:=HB.out w1 E;clear ha O E HB
  go_wp2_with fail
  refine U.mono ?_;rintro e w2 ⟨A2,c2,rfl,T,F⟩;have hm:=qxn (λ_=>True) ra rb _ _ w2 (qa3.good.bel (qa3.good.mono ad.out λ_ _ _=>trivial) F) (qa3.good.mono T λ_ _ _=>trivial) X aa;have G:Hid (Ext w w2):=ae.out.trans' F;clear U T F
  go_wp2_with fail
  refine hm.mono ?_;rintro e w3 ⟨A3,c3,rfl,M,ab⟩;have ac:=Hd M;have af:Hid (Ext w w3):=G.out.trans' ab;clear hm M ab
  go_wp2_with fail
  go_ret;rw[u.out]
  exact⟨A3,c3,rfl,qa3.good.mono (ac.out.sl REd.good (by decide)) λq _ h=>.inr (by
   have:=G.out.size
   rcases h with h | h
   .exact h.elim
   omega),af.out⟩
theorem qxe (S:Nat->Prop) (l:List Ed) (v:Value) (w:World) (c:l.length<=400000) (f:qa3 S w l [v]):Calls Tryz.prog 271 #[v] w (SrtPost S (qdk l) w):=qy8 _ S l v w (Nat.le_refl _) c f
end
section
open Go.Shelf
theorem qld {S:Nat->Prop} {W:World} {x:Ar} {cs:List Value} (h:RAr S W x cs):∃v,cs=[.int .i64 x.f,.int .i64 x.l.g,v,.int .i64 x.t]/\I64 x.f/\I64 x.t/\RLb S W x.l [.int .i64 x.l.g,v]:=by
 obtain⟨c,o,v,rfl,q,r⟩:=h;exact⟨v,rfl,c,o,q,v,rfl,r⟩
def rUsedPost (S:Nat->Prop) (s:Sy) (w:World) (e:Ending) (w':World):Prop:=∃cs,e = .returned (.tuple #[.agg cs.toArray,.bool true])/\RSy (λb=>S b\/w.heap.size<=b) w' s cs/\Ext w w'
theorem rused_c (S:Nat->Prop) (n:Int) (jn:I64 n) (rs:List Ar) (v:Value) (w:World) (hx:RSl RAr 4 S w rs [v]) (hl:rs.length<=100000) (hL:(rLs rs rs.length).length<=4000) :
  Calls Tryz.prog 243 #[.int .i64 n,v] w (rUsedPost S (qji n rs) w):=by
 obtain⟨A,c,rfl,hc,bU⟩:=hx.val;obtain⟨T,hT⟩:∃T:Nat->Prop,T=λb=>S b/\b<w.heap.size:=⟨_,rfl⟩
 have HX:Hid (RSl RAr 4 T w rs [.slice A rs.length c]):=(RSl.good RAr.good).mono hx λb hb h=>by rw[hT];exact⟨h,hb⟩
 have HT:Hid (∀b,T b->S b/\b<w.heap.size):=λb h=>by rw[hT]at h;exact h
 have bD:=Hd jn;clear hx hT jn;obtain⟨W0,ad⟩:=nm ((w.alloc (.cells #[.int .i64 0,.slice none 0 0,.slice none 0 0] 25)).alloc (.cells #[.int .i64 n,.slice none 0 0,.slice none 0 0] 25));have bv:W0.heap.size=w.heap.size+2:=by rw[<- ad];simp
 have be:Ext w W0:=by rw[<- ad];exact((Ext.refl w).alloc _).alloc _
 have aQ:qaf W0 w.heap.size 25 [.int .i64 0,.slice none 0 0,.slice none 0 0]:=by rw[<- ad];exact(qaf.new w _ _).ext ((Ext.refl _).alloc _)
 have aR:qaf W0 (w.heap.size+1) 25 [.int .i64 n,.slice none 0 0,.slice none 0 0]:=by
  have h:=qaf.new (w.alloc (.cells #[.int .i64 0,.slice none 0 0,.slice none 0 0] 25)) 25 [.int .i64 n,.slice none 0 0,.slice none 0 0];rw[World.size_alloc]at h;rw[<- ad];exact h
 obtain⟨I,ar⟩:=nm (w.heap.size);obtain⟨D,au⟩:=nm (w.heap.size+1);rw[ar]at aQ;rw[au]at aR;have U:Hid (I=w.heap.size/\D=w.heap.size+1/\W0.heap.size=w.heap.size+2):=⟨ar.symm,au.symm,bv⟩
 have bJ:=Hd ad;have bB:=Hd be;have bx:=Hd aQ;have bz:=Hd aR;have bc:=Hd ar;have bd:=Hd au;clear ad bv be aQ aR ar au
 go_enter Tryz.func243,Tryz.ntmps243
 go_upto_region 2 with (fail)
 rw[bJ.out,bd.out,bc.out]
 go_wp2_with fail
 go_loopw [7] (λvi wr=>∃(k:Nat) (o:List Lb) (Ao:Option Addr) (co:Nat),k<=rs.length/\vi = .int .i64 k/\Ext w wr/\Hid (o=rLs rs k)/\Hid (qaf wr I 25 [.int .i64 0,.slice none 0 0,.slice none 0 0])/\Hid (qaf wr D 25 [.int .i64 n,.slice Ao o.length co,.slice none 0 0])/\Hid (qab RLb 2 61 W0.heap.size T wr o (.slice Ao o.length co))/\W0.heap.size<=wr.heap.size) (λvi _=>rs.length-(intOf vi).toNat)
 case atStart=>exact⟨0,[],none,0,Nat.zero_le _,rfl,bB.out,rfl,bx.out,bz.out,qab.nil ..,Nat.le_refl _⟩
 obtain⟨k,o,Ao,co,hk,rfl,hE,hY,bb,ac,hO,aZ⟩:=hrel
 by_cases N:k<rs.length
 .obtain ⟨b,ap,bN,rfl,hb,aM,_,hr,z⟩:=((RSl.good RAr.good).bel HX.out hE).get k N;obtain⟨u,rfl,_,_,G⟩:=qld hr;have d1:=z.get 1 _;have d2:=z.get 2 _;have bu:o.length<=100000:=by rw[hY.out];have:=qqe rs k;omega
  have ai:=HT.out b aM;have L:=λq hq=>hO.out.own_lt (b:=q) hq
  have F:=λW (hW:Ext wr W)=>qxh W0.heap.size T o (by rw[hY.out];exact qou rs k) rs[k].l (.slice Ao o.length co) _ W (hO.out.ext RLb.good hW) (RLb.good.mono (RLb.good.bel G hW) λq _ h=>⟨h,λe=>by have:=(L q e).1;have:=(HT.out q h).2;have:=U.out;omega⟩) (Nat.le_trans aZ hW.size) bu
  have ba:Hid (qed o rs[k].l=rLs rs (k+1)):=by show _=_;rw[hY.out];exact(qsp N).symm
  obtain⟨r,bp⟩:=nm (qed o rs[k].l);rw[bp]at F ba;obtain⟨g,hg⟩:=nm (rs[k].l.g);rw[hg]at d1 F
  obtain⟨Au,cu,rfl,_,_⟩:∃A c,u = .slice A rs[k].l.v.length c/\rs[k].l.v.length<=c/\c<=9223372036854775807:=by
   obtain⟨_,v2,e,a1⟩:=G;simp only[List.cons.injEq,and_true]at e;rw[e.2];exact a1.val
  obtain⟨lv,am⟩:=nm (rs[k].l.v.length);rw[am]at d2 F;have aG:=Hd F;have bn:¬ (Value.slice Ao o.length co).ownBlock=some D:=λe=>by have:=(L _ e).1;have:=U.out;omega
  have an:¬ (Value.slice Ao o.length co).ownBlock=some b:=λe=>by have:=(L _ e).1;have:=U.out;have:=ai.2;omega
  have bP:¬ (Value.slice Ao o.length co).ownBlock=some I:=λe=>by have:=(L _ e).1;have:=U.out;omega
  have x1:=ac.out.cell 1 _;have aD:=ac.out.lt;have aT:k+1<=rs.length:=N;have HO:=Hd L;clear z hr G bp hg am L F ai hY
  go_wp2_with fail
  refine qek (λW=>W.cell? ⟨D,1,none⟩=some (.slice Ao o.length co)/\W.cell? ⟨b,ap+k*4+1,none⟩=some (.int .i64 g)/\W.cell? ⟨b,ap+k*4+2,none⟩=some (.slice Au lv cu)) (by kernel_rfl) (by rfl) (by kernel_rfl) ⟨x1,d1,d2⟩ (λhHeld=>?_);dsimp only[List.dropLast,List.getLastD,List.getLast?,List.getLast];obtain⟨Wd,aa⟩:=nm (wr.drew);have J:Ext wr Wd:=aa ▸ Below.drew (Ext.refl _);rw[aa]at hHeld ⊢;clear aa x1 d1 d2
  (refine tk 0 ?_;try simp only[qae])
  (refine tk 1 ?_;try simp only[qae])
  (refine tk 2 ?_;try simp only[qae])
  (refine tk 3 ?_;try simp only[qae])
  (refine tk 4 ?_;try simp only[qae])
  (refine tk 5 ?_;try simp only[qae])
  (refine tk 6 ?_;try simp only[qae])
  refine wpAnyH_ready (rs:=[7]) (by kernel_rfl) (by simp) ?_;refine AllReadyH.cons rfl (λK hK=>?_) AllReadyH.nil;go_simp;refine(aG.out Wd J).mono ?_;rintro e w5 ⟨O,V,rfl,aV,ak,bg⟩;refine hK.out _ _ ⟨ak.cell hHeld.1 bn,ak.cell hHeld.2.1 an,ak.cell hHeld.2.2 an⟩ (λav=>?_);clear hK K
  try simp only[qae]
  (refine tk 8 ?_;try simp only[qae])
  have br:(Value.slice O r.length V).ownBlock≠some D:=λe=>by
   have:=(aV.own_lt e).1;have:=U.out;omega
  have hp:=qi6 RLb.good 1 (ac.out.ext J) aV ak bn br (λh=>by have:=(HT.out _ h).2;have:=U.out;omega);have k8:=hp.1.trans ((ac.out.ext J).cell 1 _);have f8:=hp.2.1;have a8:=Hd hp;have bA:Hid (qaf (w5.setCell ⟨D,1,none⟩ (.slice O r.length V)) I 25 [.int .i64 0,.slice none 0 0,.slice none 0 0]):=(bb.out.ext J).bt hp.2.2.2.2 (λh=>h.elim bP λe=>by have:=U.out;omega)
  have aI:Hid (Ext w (w5.setCell ⟨D,1,none⟩ (.slice O r.length V))):=Bt.new (hE.trans' J) hp.2.2.2.2 λq _ h=>by
   have:=U.out
   rcases h with h | h
   .have:=(HO.out q h).1;omega
   omega
  have bR:W0.heap.size<=(w5.setCell ⟨D,1,none⟩ (.slice O r.length V)).heap.size:=by have:=hp.2.2.2.2.size;have:=J.size;omega
  clear hp hHeld aV ak bg br;refine wpAnyH_done (by kernel_rfl) ?_ _;show Oper.wp _ _ _ _ _ _;go_simp;clear av
  go_wp2_with fail
  go_roundw
  case rel=>exact⟨k+1,r,O,V,aT,by go_num,aI.out,ba.out,bA.out,a8.out.2.2.1,a8.out.2.2.2.1,bR⟩
  simp[intOf];omega
 obtain rfl:k=rs.length:=by omega
 have HY:=hY;obtain⟨W7,rfl⟩:∃W7,W7=wr:=⟨_,rfl⟩
 have aq:Hid (o.length<=4000):=by show _<=_;rw[hY.out];exact hL
 have a6:Hid (Inc o):=by show Inc _;rw[hY.out];exact qou rs _
 have bC:=Hd hE;have aJ:=Hd aZ;clear hY hE N aZ hk
 go_wp2_with fail
 go_loopw [8,9] (λve vi wr=>∃(k:Nat) (Ae:Option Addr) (ce:Nat),k<=rs.length/\vi = .int .i64 k/\ve = .slice Ae k ce/\Ext W7 wr/\Hid (qab REd 3 88 W7.heap.size (λ_=>False) wr ((rs.take k).map (rEd o)) (.slice Ae k ce))) (λ_ vi _=>rs.length-(intOf vi).toNat)
 case atStart=>exact⟨0,none,0,Nat.zero_le _,rfl,rfl,Ext.refl _,qab.nil ..⟩
 obtain⟨k,Ae,ce,hk,rfl,rfl,hE,ah⟩:=hrel;have aL:Ext w wr:=bC.out.trans' hE;have aK:=ac.out.ext hE;have x1:=aK.cell 1 _;have aD:=aK.lt;clear aK
 by_cases N:k<rs.length
 .obtain ⟨b,ap,bN,rfl,hb,aM,_,hr,z⟩:=((RSl.good RAr.good).bel HX.out aL).get k N;obtain⟨u,rfl,jf,jt,G⟩:=qld hr;have d0:=z.get 0 _;have d1:=z.get 1 _;have d2:=z.get 2 _;have d3:=z.get 3 _;simp only[Nat.add_zero]at d0;have ab:=λW (hW:Ext wr W)=>place_c (λ_=>True) o a6.out rs[k].l _ _ W (qaa.good.bel (qaa.good.mono (hO.out.sl RLb.good (by decide)) λ_ _ _=>trivial) (hE.trans' hW)) (RLb.good.bel (RLb.good.mono G λ_ _ _=>trivial) hW) (by have:=aq.out;have h:o.length<=4000:=this;omega)
  have bi:=qmq rs[k].l o;have Y:(rs.take (k+1)).map (rEd o)=(rs.take k).map (rEd o)++[⟨rs[k].f,(qc0 rs[k].l o:Nat),rs[k].t⟩]:=by rw[List.take_succ_eq_append_getElem N,List.map_append];rfl
  obtain⟨p,hp⟩:=nm (qc0 rs[k].l o);rw[hp]at ab bi Y;obtain⟨mb,bm⟩:=nm (memB o rs[k].l);rw[bm]at ab;obtain⟨g,hg⟩:=nm (rs[k].l.g);rw[hg]at d1 ab;obtain⟨f,hf⟩:=nm (rs[k].f);rw[hf]at d0 Y jf;obtain⟨t,ht⟩:=nm (rs[k].t);rw[ht]at d3 Y jt
  obtain⟨Au,cu,rfl,_,_⟩:∃A c,u = .slice A rs[k].l.v.length c/\rs[k].l.v.length<=c/\c<=9223372036854775807:=by
   obtain⟨_,v2,e,a1⟩:=G;simp only[List.cons.injEq,and_true]at e;rw[e.2];exact a1.val
  obtain⟨lv,am⟩:=nm (rs[k].l.v.length);rw[am]at d2 ab;have bo:I64 (p:Int):=by have h:o.length<=4000:=aq.out;unfold I64;omega
  have HJ:Hid (I64 f/\I64 (p:Int)/\I64 t):=⟨jf,bo,jt⟩
  have bF:=Hd Y;have aT:k+1<=rs.length:=N;have bf:∀(y:World),Ext wr (qam wr y):=λy=>qa7 _ y
  have bl:((rs.take k).map (rEd o)).length=k:=by rw[List.length_map,List.length_take];omega
  have a7:=Hd bl;clear z hr G hp bm hg hf ht am jf jt bo Y bi bl
  go_wp2_with fail
  (refine qap ?_;(repeat (first | go_big_quiet_step ((go_at_call 270;exact qbh (ab _ (bf _)))) | quiet_step ((go_at_call 270;exact qbh (ab _ (bf _))))));refine wpQuiet_nil ?_)
  intro w4 ay;have e0:=Ext.keep ay d0;have e3:=Ext.keep ay d3;have bT:b<w4.heap.size:=Nat.lt_of_lt_of_le hb ay.size;clear ab x1 aD d0 d1 d2 d3 hb
  go_wp2_with fail
  refine qek (λW=>W.cell? ⟨b,ap+k*4,none⟩=some (.int .i64 f)/\W.cell? ⟨b,ap+k*4+3,none⟩=some (.int .i64 t)) (by kernel_rfl) (by rfl) (by kernel_rfl) ⟨e0,e3⟩ (λhHeld=>?_);dsimp only[List.dropLast,List.getLastD,List.getLast?,List.getLast];obtain⟨Wd,aa⟩:=nm (w4.drew);have J:Ext wr Wd:=aa ▸ Below.drew ay;rw[aa]at hHeld ⊢;clear aa e0 e3
  obtain⟨g8,c8,w8,aW,ax,ae,bO,aS⟩:=qcw REd.good (by decide) W7.heap.size 88 23 (.agg #[.int .i64 0,.int .i64 0,.int .i64 0]) 24 Tryz.underlying23 info88m rfl (by decide) (λ_=>False) Wd _ (.slice Ae k ce) ⟨f,(p:Int),t⟩ [.int .i64 f,.int .i64 (p:Int),.int .i64 t]
   (ah.out.ext REd.good J) ⟨HJ.out.1,HJ.out.2.1,HJ.out.2.2,rfl⟩ (Nat.le_trans hE.size J.size) (by rw[a7.out];omega)
  have L:=λq hq=>ah.out.own_lt (b:=q) hq
  rw[<- bF.out]at ax;rw[a7.out]at ax aW;have bG:=Hd ax;have aI:Hid (Ext W7 w8):=Bt.new (hE.trans' J) ae λq _ h=>(L q h).1
  have a9:=Hd aW;have ai:=HT.out b aM;have an:¬ (Value.slice Ae k ce).ownBlock=some b:=λe=>by have:=(L _ e).1;have:=U.out;have:=ai.2;have h:W0.heap.size<=W7.heap.size:=aJ.out;omega
  clear aW ax ae bO L ai ah
  (refine tk 0 ?_;try simp only[qae])
  (refine tk 1 ?_;try simp only[qae])
  (refine tk 2 ?_;try simp only[qae])
  (refine tk 3 ?_;try simp only[qae])
  (refine tk 4 ?_;try simp only[qae])
  (refine tk 5 ?_;try simp only[qae])
  (refine tk 6 ?_;try simp only[qae])
  (refine tk 7 ?_;try simp only[qae])
  (refine tk 8 ?_;try simp only[qae])
  (refine tk 9 ?_;try simp only[qae])
  (refine tk 10 ?_;try simp only[qae])
  (refine tk 11 ?_;try simp only[qae])
  (refine tk 12 ?_;try simp only[qae])
  refine wpAnyH_ready (rs:=[13]) (by kernel_rfl) (by simp) ?_;refine AllReadyH.cons rfl (λK hK=>?_) AllReadyH.nil;go_simp;have E:=Ext.k2 ((Ext.refl Wd).alloc (.cells #[.int .i64 f,.int .i64 (p:Int),.int .i64 t] 88)) hHeld;refine hK.out _ _ E (λ_=>?_);clear hK K
  try simp only[qae]
  refine wpAnyH_ready (rs:=[14]) (by kernel_rfl) (by simp) ?_;refine AllReadyH.cons rfl (λK hK=>?_) AllReadyH.nil;refine qf8 rfl _ _ _ rfl _ _ _ rfl rfl a9.out ?_;refine hK.out _ _ ⟨aS.cell E.1 an,aS.cell E.2 an⟩ (λM=>?_);clear hK K
  try simp only[qae]
  refine wpAnyH_done (by kernel_rfl) ?_ _;show Oper.wp _ _ _ _ _ _;go_simp;clear hHeld E M aS
  go_wp2_with fail
  go_roundw
  case rel=>exact⟨k+1,some ⟨g8,0,none⟩,c8,aT,by go_num,rfl,aI.out,bG.out⟩
  simp[intOf];omega
 obtain rfl:k=rs.length:=by omega
 have aE:((rs.take rs.length).map (rEd o)).length=rs.length:=by rw[List.take_length,List.length_map]
 have aX:=ah.out.sl REd.good (by decide);rw[List.take_length]at aX aE;have aY:=λW (hW:Ext wr W)=>qxe _ (rs.map (rEd o)) (.slice Ae rs.length ce) W (by omega) (qa3.good.bel aX hW)
 have HR:Hid (qji n rs=⟨n,o,qdk (rs.map (rEd o))⟩):=by show _=_;rw[qji,HY.out]
 have aH:Hid ((qdk (rs.map (rEd o))).length<=100000):=by have h:=(qny _ (rs.map (rEd o)) (Nat.le_refl _)).2.2;show _<=_;omega
 obtain⟨es,bj⟩:=nm (qdk (rs.map (rEd o)));rw[bj]at aY HR aH;have a4:=Hd (ac.out.ext hE);have a2:=Hd (bb.out.ext hE);have bE:=Hd (hO.out.ext RLb.good hE);have a5:=Hd aL;have bw:W7.heap.size<=wr.heap.size:=hE.size;have bM:=Hd bw;clear aE aX bj ah hE aL N hk bw
 go_wp2_with fail
 refine(aY _ (Ext.refl _)).mono ?_;rintro e w5 ⟨O,V,rfl,bq,ag⟩;have al:=a4.out.ext ag;have bh:=a2.out.ext ag;have x2:=al.cell 2 _;have xf:=al.frozen 2;have xz:=al.lt;have aB:=Hd (bE.out.ext RLb.good ag);have bH:=Hd bq;have bK:Hid (Ext w w5):=a5.out.trans' ag;have ao:Bt (λq=>q=D) w5 (w5.setCell ⟨D,2,none⟩ (.slice O es.length V)):=Bt.set (Z:=λq=>q=D) (p:=⟨D,2,none⟩) (Bt.refl _ _) (.inr rfl) _;have aA:Hid (qaf (w5.setCell ⟨D,2,none⟩ (.slice O es.length V)) D 25 [.int .i64 n,.slice Ao o.length co,.slice O es.length V]):=al.set 2 _;have az:Hid (qaf (w5.setCell ⟨D,2,none⟩ (.slice O es.length V)) I 25 [.int .i64 0,.slice none 0 0,.slice none 0 0]):=bh.bt ao (λe=>by have:=U.out;omega);have aC:=Hd ao;have bZ:=ag.size;have bX:=a5.out.size;clear aY ag al bh bq ao a4 a2
 go_wp2_with fail
 obtain⟨W6,aN⟩:=nm (w5.setCell ⟨D,2,none⟩ (.slice O es.length V));rw[aN]at aA az aC;rw[aN];have bu:(o.length:Int)<=4000:=by have h:o.length<=4000:=aq.out;omega
 have bV:(es.length:Int)<=100000:=by have h:es.length<=100000:=aH.out;omega
 have bY:o.length<=4000:=aq.out;have bW:es.length<=100000:=aH.out;clear aN x2 xf xz;refine wp_region_held (S:=λW=>W.cell? ⟨D,0,none⟩=some (.int .i64 n)/\W.cell? ⟨D,1,none⟩=some (.slice Ao o.length co)/\W.cell? ⟨D,2,none⟩=some (.slice O es.length V)) (by kernel_rfl) ?_;show wpAnyH _ _ _ _ _ _ _ _ W6.drew;obtain⟨We,aP⟩:=nm (W6.drew);have aw:Ext W6 We:=aP ▸ Below.drew (Ext.refl _);rw[aP];have X:=aA.out.ext aw;have C:=az.out.ext aw;have hHeld:We.cell? ⟨D,0,none⟩=some (.int .i64 n)/\We.cell? ⟨D,1,none⟩=some (.slice Ao o.length co)/\We.cell? ⟨D,2,none⟩=some (.slice O es.length V):=⟨X.cell 0 _,X.cell 1 _,X.cell 2 _⟩
 have y0:=C.cell 0 _;have y1:=C.cell 1 _;have y2:=C.cell 2 _;have f0:=C.frozen 0;have f1:=C.frozen 1;have f2:=C.frozen 2;have yz:=C.lt;have bS:=Hd X;have a3:=Hd C;have bL:=Hd aw;have aU:D≠I:=λe=>by have:=U.out;omega
 clear aP X C aw
 (refine tk 0 ?_;try simp only[qae])
 (refine tk 1 ?_;try simp only[qae])
 (refine tk 2 ?_;try simp only[qae])
 (refine tk 3 ?_;try simp only[qae])
 (refine tk 4 ?_;try simp only[qae])
 (refine tk 5 ?_;try simp only[qae])
 (refine tk 6 ?_ (hi:=by exact rfl) (hn:=by kernel_rfl);(try simp only[qae]))
 (refine tk 7 ?_ (hi:=by exact rfl) (hn:=by kernel_rfl);(try simp only[qae]))
 (refine tk 8 ?_ (hi:=by exact rfl) (hn:=by kernel_rfl);(try simp only[qae]))
 (refine tk 9 ?_ (hi:=by exact rfl) (hn:=by kernel_rfl);(try simp only[qae]))
 (refine tk 10 ?_;try simp only[qae])
 refine wpAnyH_ready (rs:=[11]) (by kernel_rfl) (by simp) ?_;refine AllReadyH.cons rfl (λK hK=>?_) AllReadyH.nil;go_simp;have ae:=((a3.out.set 0 (.int .i64 n)).set 1 (.slice Ao o.length co)).set 2 (.slice O es.length V)
 have af:Bt (λq=>q=I) We (((We.setCell ⟨I,0,none⟩ (.int .i64 n)).setCell ⟨I,1,none⟩ (.slice Ao o.length co)).setCell ⟨I,2,none⟩ (.slice O es.length V)) :=
  Bt.set (Z:=λq=>q=I) (p:=⟨I,2,none⟩) (Bt.set (Z:=λq=>q=I) (p:=⟨I,1,none⟩) (Bt.set (Z:=λq=>q=I) (p:=⟨I,0,none⟩) (Bt.refl _ _) (.inr rfl) _) (.inr rfl) _) (.inr rfl) _
 obtain⟨W8,aO⟩:=nm ((((We.setCell ⟨I,0,none⟩ (.int .i64 n)).setCell ⟨I,1,none⟩ (.slice Ao o.length co)).setCell ⟨I,2,none⟩ (.slice O es.length V)));rw[aO]at ae af;rw[aO];refine hK.out _ _ ⟨af.cell hHeld.1 aU,af.cell hHeld.2.1 aU,af.cell hHeld.2.2 aU⟩ (λM=>?_);clear hK K aO
 try simp only[qae]
 (refine tk 12 ?_;try simp only[qae])
 refine wpAnyH_done (by kernel_rfl) ?_ _;have aF:=Hd ae;have bI:=Hd af;clear ae af hHeld M y0 y1 y2 f0 f1 f2
 go_wp2_with fail
 have aj:Bt (λq=>q=D\/q=I) w5 W8:=((aC.out.ext bL.out).mono (Z':=λq=>q=D\/q=I) λq _ h=>.inl h).trans (bI.out.mono λq _ h=>.inr h)
 have bk:Ext w W8:=Bt.new bK.out aj λq _ h=>by
  have:=U.out
  rcases h with h | h <;> omega
 refine bodyPost_ret (qg8 rfl _ _ I _ _ _ _ rfl rfl (aF.out.cell 0 _) (aF.out.cell 1 _) (aF.out.cell 2 _)) rfl ⟨[.int .i64 n,.slice Ao o.length co,.slice O es.length V],rfl,?_,bk⟩;rw[HR.out];refine⟨bD.out,_,_,rfl,?_,?_⟩
 .refine qaa.good.mono ((aB.out.bt RLb.good aj λq _ h=>⟨λht=>?_,λe=>?_⟩).sl RLb.good (by decide)) λq _ h=>?_
  .have:=(HT.out q ht).2;have:=U.out
   rcases h with h | h <;> omega
  .have:=(aB.out.own_lt e).1;have:=U.out
   rcases h with h | h <;> omega
  rcases h with h | h
  .exact .inl (HT.out q h).1
  have:=U.out;exact .inr (by omega)
 refine qa3.good.mono (qa3.good.move (qa3.good.mono bH.out (S':=λq=>W7.heap.size<=q) λq _ h=>?_) (aj.kp λq _ hq h=>?_)) λq _ h=>?_
 .rcases h with h | h
  .rcases h with h | h
   .exact h.elim
   exact h
  have h7:W7.heap.size<=wr.heap.size:=bM.out;omega
 .have:=U.out;have h7:W0.heap.size<=W7.heap.size:=aJ.out;have bQ:W7.heap.size<=q:=hq
  rcases h with h | h <;> omega
 have:=U.out;have h7:W0.heap.size<=W7.heap.size:=aJ.out;have bQ:W7.heap.size<=q:=h;exact .inr (by omega)
end
section
open Go.Shelf
def rightB (s:Sy) (m:Mu):Bool:=(decide (0<=m.e) && decide (m.e<s.es.length)) && (m.k == 2 || m.t == 0) && (m.k == 3 || m.l == 0)
theorem right_ok {s:Sy} (f:qah s) {m:Mu} (h:rightB s m=true) (q:¬ m.k<1) (r:¬ 3<m.k) (u:¬ m.t<0) (v:¬ s.n<=m.t) (w:¬ m.l<0) (y:¬ max (s.ls.length:Int) 1<=m.l):qbq s m:=by
 simp only[rightB,Bool.and_eq_true,Bool.or_eq_true,decide_eq_true_eq,beq_iff_eq]at h;obtain⟨⟨⟨a,b⟩,c⟩,d⟩:=h;have z:=qjs f m.e.toNat (by omega);refine⟨⟨a,b⟩,?_⟩
 by_cases g:m.k=1
 .exact .inl ⟨g,by omega,by omega⟩
 by_cases o:m.k=2
 .exact .inr (.inl ⟨o,⟨by omega,by omega⟩,by omega⟩)
 exact .inr (.inr ⟨by omega,by omega,by omega,by omega⟩)
def NoMuPost (w:World) (e:Ending) (w':World):Prop:=e = .returned (.tuple #[.agg #[.int .i64 0,.slice none 0 0,.slice none 0 0],.bool false,.int .i64 0])/\Ext w w'
theorem qt8 (S:Nat->Prop) (s:Sy) (ac:qah s) (m:Mu) (hm:¬ qbq s m) (cs cm:List Value) (w:World) (hx:RSy S w s cs) (ab:RMu S w m cm) :
  Calls Tryz.prog 124 #[.agg cs.toArray,.agg cm.toArray] w (NoMuPost w):=by
 have V:RSy (λq=>q<w.heap.size) w s cs:=RSy.good.mono hx λb hb _=>hb
 obtain⟨jn,vl,ve,rfl,U,T⟩:=id V;obtain⟨Al,cl,rfl,_,_⟩:=U.val;obtain⟨Ae,ce,rfl,_,_⟩:=T.val;obtain⟨jk,je,jt,jl,rfl⟩:=ab;have HR:=Hd (λh h1 h2 h3 h4 h5 h6=>hm (right_ok ac h h1 h2 h3 h4 h5 h6));clear hx V U T hm;obtain⟨r,f⟩:=nm (((w.alloc (.cells #[.int .i64 s.n,.slice Al s.ls.length cl,.slice Ae s.es.length ce] 25)).alloc (.cells #[.int .i64 m.k,.int .i64 m.e,.int .i64 m.t,.int .i64 m.l] 94)).alloc (.cells #[.int .i64 0,.slice none 0 0,.slice none 0 0] 25));have I:Ext w r:=by rw[<- f];exact(((Ext.refl w).alloc _).alloc _).alloc _
 have O:r.heap.size=w.heap.size+3:=by rw[<- f];simp
 have J:qaf r w.heap.size 25 [.int .i64 s.n,.slice Al s.ls.length cl,.slice Ae s.es.length ce]:=by
  rw[<- f];exact((qaf.new w _ _).ext ((Ext.refl _).alloc _)).ext ((Ext.refl _).alloc _)
 have L:qaf r (w.heap.size+1) 94 [.int .i64 m.k,.int .i64 m.e,.int .i64 m.t,.int .i64 m.l]:=by rw[<- f];exact qg3 ..
 have M:qaf r (w.heap.size+1+1) 25 [.int .i64 0,.slice none 0 0,.slice none 0 0]:=by rw[<- f];exact qgy ..
 have G:=Hd f;have o:=Hd J;have g:=Hd L;have c:=Hd M;have aa:=Hd I;clear f J L M I
 go_enter Tryz.func124,Tryz.ntmps124
 go_upto_region 1 with (fail)
 rw[G.out];obtain⟨B1,v⟩:=nm (w.heap.size+1);rw[v]at g c;obtain⟨D,y⟩:=nm (B1+1);rw[v,y];rw[y]at c;have HN:Hid (B1=w.heap.size+1/\D=w.heap.size+2/\r.heap.size=w.heap.size+3):=⟨by omega,by omega,O⟩
 clear G v y O;have a0:=o.out.cell 0 _;have a1:=o.out.cell 1 _;have a2:=o.out.cell 2 _;have az:=o.out.lt;have m0:=g.out.cell 0 _;have m1:=g.out.cell 1 _;have m2:=g.out.cell 2 _;have m3:=g.out.cell 3 _;have mz:=g.out.lt;obtain⟨Y,N⟩:=nm (rightB s m);have F:=Hd N;clear N
 go_cut [7] (λv7 wx=>v7 = .bool Y/\wx=r)
 case first =>
  have u:Hid (Y=((decide (0<=m.e) && decide (m.e<s.es.length)) && (m.k == 2 || m.t == 0) && (m.k == 3 || m.l == 0))):=F.out.symm
  by_cases q1:0<=m.e
  .by_cases q2:m.e<s.es.length
   .rcases Bool.eq_false_or_eq_true (m.k == 2)with E | E
    .rcases Bool.eq_false_or_eq_true (m.k == 3)with C | C
     .go_wp2_with fail
      go_meet
      exact⟨by rw[u.out,E,C,decide_eq_true (by omega),decide_eq_true (by omega)];rfl,rfl⟩
     rcases Bool.eq_false_or_eq_true (m.l == 0)with X | X <;>
     .go_wp2_with fail
      go_meet
      exact⟨by rw[u.out,E,C,X,decide_eq_true (by omega),decide_eq_true (by omega)];rfl,rfl⟩
    rcases Bool.eq_false_or_eq_true (m.t == 0)with r4 | r4
    .rcases Bool.eq_false_or_eq_true (m.k == 3)with C | C
     .go_wp2_with fail
      go_meet
      exact⟨by rw[u.out,E,C,r4,decide_eq_true (by omega),decide_eq_true (by omega)];rfl,rfl⟩
     rcases Bool.eq_false_or_eq_true (m.l == 0)with X | X <;>
     .go_wp2_with fail
      go_meet
      exact⟨by rw[u.out,E,C,X,r4,decide_eq_true (by omega),decide_eq_true (by omega)];rfl,rfl⟩
    go_wp2_with fail
    go_meet
    exact⟨by rw[u.out,E,r4,decide_eq_true (by omega),decide_eq_true (by omega)];rfl,rfl⟩
   go_wp2_with fail
   go_meet
   exact⟨by rw[u.out,decide_eq_true (by omega),decide_eq_false (by omega)];rfl,rfl⟩
  go_wp2_with fail
  go_meet
  exact⟨by rw[u.out,decide_eq_false (by omega)];rfl,rfl⟩
 rename World=>Wx
 obtain⟨rfl,ad⟩:=hcut;subst ad
 go_upto_region 2 with (fail)
 go_cut [82] (λaf wx=>af = .bool true/\wx=Wx)
 case first =>
  cases Y with
  | false =>
   go_wp2_with fail
   go_meet
   exact⟨rfl,rfl⟩
  | true =>
   by_cases q1:m.k<1
   .go_wp2_with fail
    go_meet
    exact⟨rfl,rfl⟩
   by_cases q2:3<m.k
   .go_wp2_with fail
    go_meet
    exact⟨rfl,rfl⟩
   by_cases q3:m.t<0
   .go_wp2_with fail
    go_meet
    exact⟨rfl,rfl⟩
   by_cases q4:s.n<=m.t
   .go_wp2_with fail
    go_meet
    exact⟨rfl,rfl⟩
   by_cases q5:m.l<0
   .go_wp2_with fail
    go_meet
    exact⟨rfl,rfl⟩
   by_cases q6:max (s.ls.length:Int) 1<=m.l
   .go_wp2_with fail
    go_meet
    exact⟨rfl,rfl⟩
   exact absurd trivial (λ_=>HR.out F.out q1 q2 q3 q4 q5 q6)
 rename World=>Wy
 obtain⟨rfl,ae⟩:=hcut;subst ae;have c0:=c.out.cell 0 _;have c1:=c.out.cell 1 _;have c2:=c.out.cell 2 _;have cz:=c.out.lt;have f0:=c.out.frozen 0;have f1:=c.out.frozen 1;have f2:=c.out.frozen 2
 go_wp2_with fail
 have z:=((c.out.set 0 (.int .i64 0)).set 1 (.slice none 0 0)).set 2 (.slice none 0 0);have A:w.heap.size<=D:=by have:=HN.out;omega
 exact bodyPost_ret (qsh rfl _ _ D _ _ _ (.bool false) (.int .i64 0) rfl rfl rfl (z.cell 0 _) (z.cell 1 _) (z.cell 2 _)) rfl ⟨rfl,Ext.set (p:=⟨D,2,none⟩) (Ext.set (p:=⟨D,1,none⟩) (Ext.set (p:=⟨D,0,none⟩) aa.out A _) A _) A _⟩
end
section

theorem qwo {a x:Lb} (hv:qat x.g=true):(qat a.g && decide (qak a x=0))=qa8 a x:=by
 unfold qa8
 by_cases h:qak a x=0
 .have:=qbe.eq _ _ h;subst this;simp[hv,h]
 simp[h]
theorem qn5 {s:Sy} {m:Mu} (c:qah s) (g:qbq s m):qah (qde s m):=by
 have u:=qo5 c g;have o:=c.2.2.1;have q:(qdl s m).length<=s.es.length:=qjp s m s.es.length;have r:=c.2.2.2.1;refine build_ok ⟨c.1,c.2.1⟩ (λa f=>?_) (λa f=>?_) (by omega) (by omega)
 .have:=qhm c g (Nat.le_refl _) f;exact⟨this.1,this.2.1⟩
 exact qrm c (qhm c g (Nat.le_refl _) f).2.2
end
section
open Go.Shelf
def SmallPost (xs:List Sy) (w:World) (e:Ending) (w':World):Prop:=∃b,e = .returned (.bool b)/\Ext w w'/\(b=true->∀x∈xs,x.ls.length<=16/\x.es.length<=120)
theorem small2_c (S:Nat->Prop) (m:Int) (xs:List Sy) (v:Value) (w:World) (y:RSl RSy 3 S w xs [v]):Calls Tryz.prog 15 #[.int .i64 m,v] w (SmallPost xs w):=by
 obtain⟨A,c,rfl,hc,X⟩:=y.val;have O:=Hd y;clear y
 go_enter Tryz.func15,Tryz.ntmps15
 go_wp2_with fail
 go_loopw [9] (λI wr=>∃k:Nat,k<=xs.length/\I = .int .i64 k/\Ext w wr/\Hid (∀j,(h:j<k)->(J:j<xs.length)->xs[j].ls.length<=16/\xs[j].es.length<=120)) (λI _=>xs.length-(intOf I).toNat)
 case atStart=>exact⟨0,Nat.zero_le _,rfl,Ext.refl _,λj h _=>absurd h (by omega)⟩
 obtain⟨k,hk,rfl,L,hQ⟩:=hrel
 by_cases F:k<xs.length
 .obtain ⟨b,aa,cs,rfl,hb,C,hl,hr,f⟩:=((RSl.good RSy.good).bel O.out L).get k F;obtain⟨j1,u1,u2,rfl,q,u⟩:=id hr;obtain⟨a0,T,U⟩:=g3 f;obtain⟨A1,c1,rfl,D,M⟩:=q.val;obtain⟨A2,c2,rfl,E,N⟩:=u.val;have g:=λ(h:xs[k].ls.length<=16) W (V:Ext wr W)=>qqa S _ _ W (qaa.good.bel q V) (by omega)
  obtain⟨s,o⟩:=nm (xs[k]);rw[o]at a0 T U g D E;have z:=Hd o;clear hr q u hl f C o
  by_cases h1:m<s.n
  all_goals by_cases h2:s.n<=20000
  all_goals by_cases h3:16<s.ls.length
  all_goals by_cases h4:120<s.es.length
  all_goals first
   | (have G:=g (by omega)
      clear g
      go_wp2_with fail
      refine(G _ bel).mono ?_;rintro e w5 ⟨rfl,h5⟩;obtain⟨B,r⟩:=nm (qfp s.ls);rw[r];clear r
      cases B
      .go_wp2_with fail
       go_ret;exact⟨_,rfl,bel,λh=>(by cases h)⟩
      go_wp2_with fail
      go_roundw
      case rel=>exact⟨k+1,by omega,by go_num,bel,λj h J=>by
       by_cases e:j=k
       .subst e;rw[z.out];omega
       exact hQ.out j (by omega) J⟩
      simp[intOf];omega)
   | (clear g
      go_wp2_with fail
      go_ret
      exact⟨_,rfl,bel,λh=>(by cases h)⟩)
 go_wp2_with fail
 go_ret
 exact⟨_,rfl,L,λ_ x y=>by
  obtain⟨j,Y,rfl⟩:=List.getElem_of_mem y
  exact hQ.out j (by omega) Y⟩
end
end Go.Proofs.YtegenalcheooeaaGreat
