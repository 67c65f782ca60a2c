/- Of the proof of a law of the suites: PCov, RPCov, RefMark, PRef, RSets, RWith, RInsert, RLeast, RLabels, RefAdd. -/
import Derived.Test.YtegenalcheooeaaGreatAF01
import Derived.Test.YtegenalcheooeaaGreatAF02
import Derived.Test.YtegenalcheooeaaGreatAF03
import Derived.Test.YtegenalcheooeaaGreatAF04
import Derived.Test.YtegenalcheooeaaGreatAF05
import Derived.Test.YtegenalcheooeaaGreatAF11
import Derived.Test.YtegenalcheooeaaGreatB08
import Derived.Test.YtegenalcheooeaaGreatB09
import Derived.Test.YtegenalcheooeaaGreatB11
import Derived.Test.YtegenalcheooeaaGreatB16
set_option linter.unusedSectionVars false
set_option linter.unusedSimpArgs false
set_option linter.unusedVariables false
namespace Go.Proofs.YtegenalcheooeaaGreat
open Go.RowKit
attribute [local go_sem] cell?_exto
set_option maxHeartbeats 16000000
set_option maxRecDepth 100000
section

abbrev qaj (l:List Bool) (i:Nat):Bool:=l.getD i false
theorem qk6 (l:List Bool) (j i:Nat):qaj (l.set j true) i=(qaj l i || (decide (i=j) && decide (j<l.length))):=by
 simp only[qaj,List.getD_eq_getElem?_getD,List.getElem?_set]
 by_cases h:j=i
 .subst h
  by_cases c:j<l.length
  .simp [c]
  simp[c]
 have:¬ i=j:=λe=>h e.symm
 simp[h,this]
theorem qh3 (n i:Nat):qaj (List.replicate n false) i=false:=by
 simp only[qaj,List.getD_eq_getElem?_getD,List.getElem?_replicate]
 split <;> rfl
def qbl (n:Nat) (f:List Bool->List Bool):Prop:=∃P:Nat->Bool,∀bs,bs.length=n->(f bs).length=n/\∀i,qaj (f bs) i=(qaj bs i || P i)
theorem qbl.id (n:Nat):qbl n λbs=>bs:=⟨λ_=>false,λbs h=>⟨h,by simp⟩⟩
theorem qbl.comp {n:Nat} {f g:List Bool->List Bool} (hf:qbl n f) (r:qbl n g):qbl n λbs=>g (f bs):=by
 obtain⟨P,q⟩:=hf;obtain⟨Q,hQ⟩:=r;refine⟨λi=>P i || Q i,λbs h=>?_⟩;have c:=q bs h;have o:=hQ (f bs) c.1;exact⟨o.1,λi=>by rw[o.2,c.2,Bool.or_assoc]⟩
theorem qbl.set (n j:Nat):qbl n λbs=>bs.set j true:=⟨λi=>decide (i=j) && decide (j<n),λbs h=>⟨by rw[List.length_set,h],λi=>by rw[qk6,h]⟩⟩
theorem qbl.ite {n:Nat} {f g:List Bool->List Bool} (p:Prop) [Decidable p] (hf:qbl n f) (c:qbl n g):qbl n λbs=>if p then f bs else g bs:=by
 by_cases h:p
 .simpa [h]using hf
 simpa[h]using c
theorem qbl.fold {n:Nat} {β:Type} (f:List Bool->β->List Bool) (hf:∀b,qbl n λbs=>f bs b):∀l:List β,qbl n λbs=>l.foldl f bs
 | []=>qbl.id n
 | b :: l=>by
  have:=(hf b).comp (qbl.fold f hf l);simpa using this
theorem qtk (s:Sy) (x:Lb) (n:Nat):qbl n (qe8 s x):=qbl.ite _ (qbl.set n _) (qbl.id n)
theorem adds_mu (s:Sy) (t:Te) (k n:Nat):qbl n λbs=>qgm s t k (qb4 s t.tr k bs):=by
 refine qbl.comp ?_ (qbl.ite _ (qbl.fold _ (λx=>qtk s x n) _) (qbl.id n));refine qbl.ite _ (qbl.id n) ?_
 cases t.tr[k-1]? with
 | none=>exact qbl.id n
 | some x=>exact qtk s x n
theorem adds_es (s:Sy) (tr:List Lb) (k:Nat) (c:List Int) (n:Nat):qbl n (qb6 s tr k c) :=
 qbl.fold _ (λf=>qbl.fold _ (λj=>qbl.ite _ (qbl.set n _) (qbl.id n)) _) _
theorem qts (s:Sy) (t:Te):∀(f k n m:Nat),∃g h,qbl n g/\qbl m h/\∀c,qfj s t f k c=⟨g c.l,h c.e⟩
 | 0,k,n,m=>⟨_,_,qbl.id n,qbl.id m,λc=>rfl⟩
 | f+1,k,n,m=>by
  by_cases o:qao s (t.tr.take k)=[]
  .exact ⟨_,_,qbl.id n,qbl.id m,λc=>by rw[qfj,if_pos o]⟩
  obtain⟨g,h,q,r,e⟩:=qts s t f (k+1) n m;refine⟨_,_,(adds_mu s t k n).comp q,(adds_es s t.tr k (qao s (t.tr.take k)) m).comp r,λc=>?_⟩;rw[qfj,if_neg o,e];rfl
def hitL (s:Sy) (t:Te) (i:Nat):Bool:=qaj (qa9 s t (cv0 s)).l i
def hitE (s:Sy) (t:Te) (i:Nat):Bool:=qaj (qa9 s t (cv0 s)).e i
def qc3 (s:Sy) (c:Cv):Prop:=c.l.length=s.ls.length/\c.e.length=s.es.length
theorem qgn (s:Sy):qc3 s (cv0 s):=⟨by simp[cv0],by simp[cv0]⟩
theorem qhw {s:Sy} {c:Cv} (h:qc3 s c) (t:Te):qc3 s (qa9 s t c):=⟨(qmi s t c).1.trans h.1,(qmi s t c).2.trans h.2⟩
theorem qqx {s:Sy} {c:Cv} (q:qc3 s c) (t:Te) (i:Nat):qaj (qa9 s t c).l i=(qaj c.l i || hitL s t i)/\qaj (qa9 s t c).e i=(qaj c.e i || hitE s t i):=by
 obtain⟨g,h,⟨P,o⟩,⟨Q,hQ⟩,e⟩:=qts s t (t.tr.length+1) 0 s.ls.length s.es.length;have f:=qgn s
 have u:hitL s t i=P i:=by
  rw[hitL,qa9,e];show qaj (g _) i=_;rw[(o _ f.1).2,show(cv0 s).l=List.replicate s.ls.length false from rfl,qh3,Bool.false_or]
 have r:hitE s t i=Q i:=by
  rw[hitE,qa9,e];show qaj (h _) i=_;rw[(hQ _ f.2).2,show(cv0 s).e=List.replicate s.es.length false from rfl,qh3,Bool.false_or]
 rw[u,r,qa9,e];exact⟨(o _ q.1).2 i,(hQ _ q.2).2 i⟩
theorem qki {a b:List Bool} (g:a.length=b.length) (h:∀i,qaj a i=qaj b i):a=b:=by
 refine List.ext_getElem g λi c f=>?_
 have:=h i;simpa[qaj,List.getD_eq_getElem?_getD,List.getElem?_eq_getElem c,List.getElem?_eq_getElem f]using this
theorem qrd:∀(a b:List Bool),a.length=b.length->(qb2 a b=0↔∀i,qaj b i=true->qaj a i=true)
 | [],[],_=>by simp[qb2,qaj]
 | x :: a,y :: b,h=>by
  have ih:=qrd a b (by simpa using h);rw[qb2]
  constructor
  .intro g i hi;have c:qb2 a b=0:=by omega
   cases i with
   | zero =>
    have hy:y=true:=by simpa[qaj]using hi
    subst hy
    cases x with
    | true=>simp[qaj]
    | false=>simp at g
   | succ i=>simpa[qaj]using ih.1 c i (by simpa[qaj]using hi)
  intro hi;have c:qb2 a b=0:=ih.2 λi o=>by simpa[qaj]using hi (i+1) (by simpa[qaj]using o)
  have f:=hi 0;simp only[qaj,List.getD_cons_zero]at f;rw[c]
  cases y with
  | false=>simp
  | true=>rw[f rfl];simp
theorem qoa {s:Sy} {a c:Cv} (f:qc3 s a) (g:qc3 s c):qc8 a c=0↔(∀i,qaj c.l i=true->qaj a.l i=true)/\∀i,qaj c.e i=true->qaj a.e i=true:=by
 rw[qc8,Nat.add_eq_zero_iff,qrd _ _ (f.1.trans g.1.symm),qrd _ _ (f.2.trans g.2.symm)]
theorem qlt:∀(a b:List Bool),a.length=b.length->∀i,qaj (orB a b) i=(qaj a i || qaj b i)
 | [],[],_,i=>by simp[orB,qaj]
 | x :: a,y :: b,h,i=>by
  have ih:=qlt a b (by simpa using h)
  cases i with
  | zero=>simp[orB,qaj]
  | succ i=>simpa[orB,qaj]using ih i
theorem qvh (a:Cv):∀(cs:List Cv) (i:Nat) (p:Int×Nat),p.2<=(qfi a cs i p).2/\∀c∈cs,qc8 a c<=(qfi a cs i p).2
 | [],_,p=>⟨Nat.le_refl _,by simp⟩
 | c :: cs,i,p=>by
  have h:=qvh a cs (i+1) (if p.2<qc8 a c then ((i:Int),qc8 a c) else p);rw[qfi];have g:p.2<=(if p.2<qc8 a c then ((i:Int),qc8 a c) else p).2/\qc8 a c<=(if p.2<qc8 a c then ((i:Int),qc8 a c) else p).2:=by split <;> constructor <;> (try dsimp only) <;> omega
  refine⟨Nat.le_trans g.1 h.1,λd f=>?_⟩
  rcases List.mem_cons.1 f with rfl | f
  .exact Nat.le_trans g.2 h.1
  exact h.2 d f
structure ChI (s:Sy) (each:List Cv) (a:Cv) (out:List Int):Prop where
 fit:qc3 s a
 nd:out.Nodup
 ok:∀j∈out,∃k:Nat,∃h:k<each.length,j=(k:Int)/\((∃i,qaj each[k].l i=true)\/∃i,qaj each[k].e i=true)
 l:∀i,qaj a.l i=true↔∃j∈out,qaj (each.getD j.toNat ⟨[],[]⟩).l i=true
 e:∀i,qaj a.e i=true↔∃j∈out,qaj (each.getD j.toNat ⟨[],[]⟩).e i=true
theorem qoe {s:Sy} {g:List Cv} (q:∀c∈g,qc3 s c):∀(f:Nat) (a:Cv) (o:List Int),potN a<f->ChI s g a o->∃b,ChI s g b (qe5 g f a o)/\∀c∈g,qc8 b c=0
 | 0,a,o,hf,_=>absurd hf (by omega)
 | f+1,a,o,hf,h=>by
  rw[qe5]
  rcases qo3 a g with w | ⟨j,z,w,D⟩
  .rw [w,if_pos (by decide)];refine⟨a,h,λc u=>?_⟩;have:=(qvh a g 0 (-1,0)).2 c u;rw[show qfi a g 0 (-1,0)=(-1,0) from w]at this;exact Nat.le_zero.1 this
  rw[w,if_neg (by omega),Int.toNat_natCast];have v:g.getD j ⟨[],[]⟩=g[j]:=by rw[List.getD_eq_getElem?_getD,List.getElem?_eq_getElem z];rfl
  have u:=q _ (List.getElem_mem z);have E:=qo4 a g[j];rw[v];have A:∀i,qaj (orCv a g[j]).l i=(qaj a.l i || qaj g[j].l i):=qlt _ _ (h.fit.1.trans u.1.symm);have B:∀i,qaj (orCv a g[j]).e i=(qaj a.e i || qaj g[j].e i):=qlt _ _ (h.fit.2.trans u.2.symm);refine qoe q f _ _ (by omega) ⟨⟨(qgi _ _).trans h.fit.1,(qgi _ _).trans h.fit.2⟩,?_,λk r=>?_,λi=>?_,λi=>?_⟩
  .refine List.nodup_append.2 ⟨h.nd,by simp,λk r b y e=>?_⟩;rw[List.mem_singleton.1 y]at e;subst e;have C:qc8 a g[j]=0:=(qoa h.fit u).2 ⟨λi hi=>(h.l i).2 ⟨_,r,by rw[Int.toNat_natCast,v];exact hi⟩,λi hi=>(h.e i).2 ⟨_,r,by rw[Int.toNat_natCast,v];exact hi⟩⟩;omega
  .rcases List.mem_append.1 r with r | r
   .exact h.ok k r
   refine⟨j,z,List.mem_singleton.1 r,Classical.byContradiction λhn=>?_⟩;have C:qc8 a g[j]=0:=(qoa h.fit u).2 ⟨λi hi=>absurd (.inl ⟨i,hi⟩) hn,λi hi=>absurd (.inr ⟨i,hi⟩) hn⟩;omega
  .rw [A,Bool.or_eq_true,h.l];simp only[List.mem_append,List.mem_singleton,or_and_right,exists_or,exists_eq_left,Int.toNat_natCast,v]
  rw[B,Bool.or_eq_true,h.e];simp only[List.mem_append,List.mem_singleton,or_and_right,exists_or,exists_eq_left,Int.toNat_natCast,v]
end
section

def rHit (s:Sy) (bs:List Bool) (tr:List Lb) (i:Nat) (e:Ed):Bool:=qdf bs e.f.toNat && qev s e.l λy=>decide (y.g = -1) || (match tr[i]? with
 | some x=>qa8 y x
 | none=>false)
def rcE (s:Sy) (bs:List Bool) (tr:List Lb) (i:Nat):Nat->List Bool->List Bool
 | 0,es=>es
 | k+1,es=>if rHit s bs tr i (qcn s k)=true then (rcE s bs tr i k es).set k true else rcE s bs tr i k es
def rSee (s:Sy) (own:List Lb) (k:Nat):Bool:=match s.ls[k]? with
 | some y=>qat y.g && hasB own y
 | none=>false
def rMk (s:Sy) (own:List Lb):Nat->List Bool->List Bool
 | 0,ls=>ls
 | k+1,ls=>if rSee s own k=true then (rMk s own k ls).set k true else rMk s own k ls
def rTr (s:Sy) (n:Nat) (tr:List Lb) (i:Nat) (ls:List Bool):List Bool:=match tr[i]? with
 | some x=>if (!(qau s n (tr.take (i+1))).any id)=true then ls else rMk s [x] s.ls.length ls
 | none=>ls
def rUp (s:Sy) (n:Nat) (tr:List Lb) (c:Cv):Nat->Cv
 | 0=>c
 | i+1=>⟨rTr s n tr i (rUp s n tr c i).l,rcE s (qau s n (tr.take i)) tr i s.es.length (rUp s n tr c i).e⟩
def rMu (s:Sy) (n:Nat) (t:Te) (ls:List Bool):List Bool:=if (!(qau s n t.tr).any id)=true then ls else rMk s t.mu s.ls.length ls
def rCov (s:Sy) (n:Nat) (t:Te) (c:Cv):Cv:=⟨rMu s n t (rUp s n t.tr c (t.tr.length+1)).l,(rUp s n t.tr c (t.tr.length+1)).e⟩
theorem qkp (s:Sy) (bs:List Bool) (tr:List Lb) (i:Nat):∀k c,(rcE s bs tr i k c).length=c.length
 | 0,c=>rfl
 | k+1,c=>by
  rw[rcE]
  split
  .rw [List.length_set,qkp]
  exact qkp ..
theorem qi3 (s:Sy) (own:List Lb):∀k c,(rMk s own k c).length=c.length
 | 0,es=>rfl
 | k+1,es=>by
  rw[rMk]
  split
  .rw [List.length_set,qi3]
  exact qi3 ..
theorem rTr_len (s:Sy) (n:Nat) (tr:List Lb) (i:Nat) (c:List Bool):(rTr s n tr i c).length=c.length:=by
 unfold rTr
 split
 .split
  .rfl
  exact qi3 ..
 rfl
theorem qjy (s:Sy) (n:Nat) (tr:List Lb) (c:Cv):∀i,(rUp s n tr c i).l.length=c.l.length/\(rUp s n tr c i).e.length=c.e.length
 | 0=>⟨rfl,rfl⟩
 | i+1=>by
  have h:=qjy s n tr c i;exact⟨(rTr_len ..).trans h.1,(qkp ..).trans h.2⟩
theorem rcE_bit (s:Sy) (bs:List Bool) (tr:List Lb) (i:Nat) (f:List Bool) (g:f.length=s.es.length) (j:Nat):∀k,k<=s.es.length->(qaj (rcE s bs tr i k f) j=true↔qaj f j=true\/j<k/\rHit s bs tr i (qcn s j)=true)
 | 0,_=>by simp[rcE]
 | k+1,hk=>by
  have ih:=rcE_bit s bs tr i f g j k (by omega);rw[rcE]
  split
  .rename_i h;rw[qk6,Bool.or_eq_true,ih,qkp,Bool.and_eq_true,decide_eq_true_eq,decide_eq_true_eq]
   constructor
   .rintro ((c | c) | c)
    .exact .inl c
    .exact .inr ⟨by omega,c.2⟩
    exact .inr ⟨by omega,by rw[c.1];exact h⟩
   rintro(c | c)
   .exact .inl (.inl c)
   by_cases e:j=k
   .exact .inr ⟨e,by omega⟩
   exact .inl (.inr ⟨by omega,c.2⟩)
  rename_i h;rw[ih]
  constructor
  .rintro (c | c)
   .exact .inl c
   exact .inr ⟨by omega,c.2⟩
  rintro(c | c)
  .exact .inl c
  by_cases e:j=k
  .rw [e]at c;exact absurd c.2 h
  exact .inr ⟨by omega,c.2⟩
theorem qpv (s:Sy) (own:List Lb) (f:List Bool) (g:f.length=s.ls.length) (j:Nat):∀k,k<=s.ls.length->(qaj (rMk s own k f) j=true↔qaj f j=true\/j<k/\rSee s own j=true)
 | 0,_=>by simp[rMk]
 | k+1,hk=>by
  have ih:=qpv s own f g j k (by omega);rw[rMk]
  split
  .rename_i h;rw[qk6,Bool.or_eq_true,ih,qi3,Bool.and_eq_true,decide_eq_true_eq,decide_eq_true_eq]
   constructor
   .rintro ((c | c) | c)
    .exact .inl c
    .exact .inr ⟨by omega,c.2⟩
    exact .inr ⟨by omega,by rw[c.1];exact h⟩
   rintro(c | c)
   .exact .inl (.inl c)
   by_cases e:j=k
   .exact .inr ⟨e,by omega⟩
   exact .inl (.inr ⟨by omega,c.2⟩)
  rename_i h;rw[ih]
  constructor
  .rintro (c | c)
   .exact .inl c
   exact .inr ⟨by omega,c.2⟩
  rintro(c | c)
  .exact .inl c
  by_cases e:j=k
  .rw [e]at c;exact absurd c.2 h
  exact .inr ⟨by omega,c.2⟩
def lbIs (s:Sy) (x:Lb) (i:Nat):Prop:=s.ls[i]? = some x
theorem qug {s:Sy} {own:List Lb} (f:∀x∈own,qat x.g=true) (j:Nat):rSee s own j=true↔∃x∈own,lbIs s x j:=by
 unfold rSee lbIs
 cases h:s.ls[j]? with
 | none=>simp
 | some y =>
  simp only[Bool.and_eq_true,hasB,List.any_eq_true,qpn,Option.some.injEq]
  constructor
  .rintro ⟨_,x,c,rfl⟩;exact⟨x,c,rfl⟩
  rintro⟨x,c,rfl⟩;exact⟨f y c,y,c,rfl⟩
theorem lbIs_lt {s:Sy} {x:Lb} {i:Nat} (h:lbIs s x i):i<s.ls.length:=(List.getElem?_eq_some_iff.1 h).1
theorem qwg {s:Sy} (hi:Inc s.ls) (x:Lb) (bs:List Bool) (w:bs.length=s.ls.length) (j:Nat):qaj (qe8 s x bs) j=true↔qaj bs j=true\/lbIs s x j:=by
 unfold qe8
 split
 .rename_i h;have c:=inLb_lt h
  have u:s.ls[qci s.ls x]=x:=by
   have v:=h;rw[qdt,qmu c,decide_eq_true_eq]at v;exact qbe.eq _ _ v
  rw[qk6,Bool.or_eq_true,Bool.and_eq_true,decide_eq_true_eq,decide_eq_true_eq];refine or_congr_right ⟨?_,λh=>?_⟩
  .rintro ⟨rfl,_⟩;exact List.getElem?_eq_some_iff.2 ⟨c,u⟩
  obtain⟨o,g⟩:=List.getElem?_eq_some_iff.1 h;refine⟨?_,by omega⟩;have f:=List.pairwise_iff_getElem.1 hi
  rcases Nat.lt_trichotomy j (qci s.ls x)with q | q | q
  .have:=f j _ o c q;rw[u,g,qbe.refl]at this;omega
  .exact q
  have:=f _ j c o q;rw[u,g,qbe.refl]at this;omega
 rename_i h
 constructor
 .exact .inl
 rintro(r | r)
 .exact r
 obtain⟨o,g⟩:=List.getElem?_eq_some_iff.1 r;exact absurd ((qo7 hi x).2 (by rw[<- g];exact List.getElem_mem o)) h
theorem mus_bit {s:Sy} (hi:Inc s.ls) (j:Nat):∀(c:List Lb) (bs:List Bool),bs.length=s.ls.length->(qaj (qfx s c bs) j=true↔qaj bs j=true\/∃x∈c,lbIs s x j)
 | [],bs,_=>by simp[qfx]
 | x :: c,bs,hl=>by
  show qaj (qfx s c (qe8 s x bs)) j=true↔_;rw[mus_bit hi j c _ (by rw[qre];exact hl),qwg hi x bs hl j];simp[or_assoc]
theorem row_bit (s:Sy) (tr:List Lb) (k j:Nat):∀(o:List (Fin s.es.length)) (c:List Bool),c.length=s.es.length->(qaj (qdj s tr k o c) j=true↔qaj c j=true\/∃h:j<s.es.length,(⟨j,h⟩:Fin _)∈o/\qe2 s tr k s.es[j].l=true)
 | [],c,_=>by simp[qdj]
 | q :: o,c,hl=>by
  show qaj (qdj s tr k o (qf0 s tr k c q)) j=true↔_;rw[row_bit s tr k j o _ (by rw[qv0];exact hl)]
  have v:qaj (qf0 s tr k c q) j=true↔qaj c j=true\/(j=q.1/\qe2 s tr k s.es[q].l=true):=by
   unfold qf0
   split
   .rename_i h;rw[qk6,Bool.or_eq_true,Bool.and_eq_true,decide_eq_true_eq,decide_eq_true_eq];refine or_congr_right ⟨λf=>⟨f.1,h⟩,λf=>⟨f.1,?_⟩⟩;have:=q.2;omega
   rename_i h;exact⟨.inl,λf=>f.resolve_right λu=>h u.2⟩
  rw[v]
  constructor
  .rintro ((h | h) | ⟨h,g,r⟩)
   .exact .inl h
   .obtain ⟨rfl,h⟩:=h;exact .inr ⟨q.2,by simp,h⟩
   exact .inr ⟨h,by simp[g],r⟩
  rintro(h | ⟨h,g,r⟩)
  .exact .inl (.inl h)
  rcases List.mem_cons.1 g with e | g
  .refine .inl (.inr ⟨by rw[<- e],?_⟩);rw[<- e];exact r
  exact .inr ⟨h,g,r⟩
theorem es_bit (s:Sy) (tr:List Lb) (k j:Nat):∀(c:List Int) (o:List Bool),o.length=s.es.length->(qaj (qb6 s tr k c o) j=true↔qaj o j=true\/∃h:j<s.es.length,s.es[j].f∈c/\qe2 s tr k s.es[j].l=true)
 | [],o,_=>by simp[qb6]
 | st :: c,o,hl=>by
  show qaj (qb6 s tr k c (qdj s tr k (qay s.es st) o)) j=true↔_;rw[es_bit s tr k j c _ (by rw[qlo];exact hl),row_bit s tr k j _ o hl]
  constructor
  .rintro ((h | ⟨h,g,q⟩) | ⟨h,g,q⟩)
   .exact .inl h
   .exact .inr ⟨h,by rw[qhp]at g;exact List.mem_cons.2 (.inl g),q⟩
   exact .inr ⟨h,by simp[g],q⟩
  rintro(h | ⟨h,g,q⟩)
  .exact .inl (.inl h)
  rcases List.mem_cons.1 g with e | g
  .exact .inl (.inr ⟨h,by rw[qhp];exact e,q⟩)
  exact .inr ⟨h,g,q⟩
theorem behL_none (s:Sy) (x:Lb):qd0 s x []=[]:=by
 have h:∀y,y∉qd0 s x []:=λy hy=>by
  have:=qkj s (λ_=>False) (λ_ _ h _=>h) (qb1 s x []) (λy hy=>by simp[qb1]at hy) y hy;exact this
 exact List.eq_nil_iff_forall_not_mem.2 h
theorem qwt {s:Sy} {tr:List Lb} {k:Nat} (h:qao s (tr.take k)=[]):∀d,qao s (tr.take (k+d))=[]
 | 0=>h
 | d+1=>by
  have ih:=qwt h d
  by_cases c:k+d<tr.length
  .rw [show k+(d+1)=k+d+1 from rfl,qk5 s tr _ c,ih,behL_none]
  rw[List.take_of_length_le (by omega)]at ih ⊢;exact ih
def pLab (s:Sy) (t:Te) (m j:Nat):Prop:=(0<m/\∃x,t.tr[m-1]? = some x/\lbIs s x j)\/(m=t.tr.length/\∃x∈t.mu,lbIs s x j)
theorem round_l {s:Sy} (hi:Inc s.ls) (t:Te) (k:Nat) (c:Cv) (r:qc3 s c) (j:Nat):qaj (qhh s t k c).l j=true↔qaj c.l j=true\/pLab s t k j:=by
 have q:qaj (qb4 s t.tr k c.l) j=true↔qaj c.l j=true\/(0<k/\∃x,t.tr[k-1]? = some x/\lbIs s x j):=by
  unfold qb4
  split
  .rename_i h;exact⟨.inl,λf=>f.resolve_right λg=>by omega⟩
  rename_i h
  split
  .rename_i x o;rw[qwg hi x c.l r.1 j];refine or_congr_right ⟨λf=>⟨by omega,x,o,f⟩,?_⟩;rintro⟨_,y,hy,u⟩;rw[o]at hy;injection hy with hy
   rw[hy];exact u
  rename_i o;refine⟨.inl,λf=>f.resolve_right ?_⟩;rintro⟨_,y,hy,_⟩;rw[o]at hy
  cases hy
 show qaj (qgm s t k (qb4 s t.tr k c.l)) j=true↔_;unfold qgm pLab
 split
 .rename_i h;rw[mus_bit hi j _ _ (by rw[qln];exact r.1),q,or_assoc];refine or_congr_right (or_congr_right ⟨λf=>⟨h,f⟩,λf=>f.2⟩)
 rename_i h;rw[q];exact or_congr_right ⟨.inl,λf=>f.resolve_right λg=>h g.1⟩
theorem round_e (s:Sy) (t:Te) (k:Nat) (c:Cv) (g:qc3 s c) (j:Nat):qaj (qhh s t k c).e j=true↔qaj c.e j=true\/∃h:j<s.es.length,s.es[j].f∈qao s (t.tr.take k)/\qe2 s t.tr k s.es[j].l=true :=
 es_bit s t.tr k j _ c.e g.2
theorem qqf {s:Sy} (hi:Inc s.ls) (t:Te) (j:Nat):∀(f k:Nat) (c:Cv),qc3 s c ->
  (qaj (qfj s t f k c).l j=true↔qaj c.l j=true\/∃m,k<=m/\m<k+f/\qao s (t.tr.take m)≠[]/\pLab s t m j) /\
  (qaj (qfj s t f k c).e j=true↔qaj c.e j=true\/∃m,k<=m/\m<k+f/\∃h:j<s.es.length,s.es[j].f∈qao s (t.tr.take m)/\qe2 s t.tr m s.es[j].l=true)
 | 0,k,c,_=>⟨⟨.inl,λh=>h.resolve_right λ⟨m,o,q,_⟩=>by omega⟩,⟨.inl,λh=>h.resolve_right λ⟨m,o,q,_⟩=>by omega⟩⟩
 | f+1,k,c,hc=>by
  rw[qfj]
  split
  .rename_i r
   have hn:∀m,k<=m->qao s (t.tr.take m)=[]:=λm y=>by
    have:=qwt r (m-k)
    rwa [show k+(m-k)=m from by omega]at this
   refine⟨⟨.inl,λh=>h.resolve_right λ⟨m,o,_,g,_⟩=>g (hn m o)⟩,⟨.inl,λh=>h.resolve_right λ⟨m,o,_,_,g,_⟩=>?_⟩⟩;rw[hn m o]at g
   cases g
  rename_i r;have hr:=qor s t k c;obtain⟨v,w⟩:=qqf hi t j f (k+1) (qhh s t k c) ⟨hr.1.trans hc.1,hr.2.trans hc.2⟩;rw[v,w,round_l hi t k c hc j,round_e s t k c hc j,or_assoc,or_assoc];refine⟨or_congr_right ⟨?_,?_⟩,or_congr_right ⟨?_,?_⟩⟩
  .rintro (h | ⟨m,o,q,g⟩)
   .exact ⟨k,Nat.le_refl _,by omega,r,h⟩
   exact⟨m,by omega,by omega,g⟩
  .rintro ⟨m,o,q,g,u⟩
   by_cases e:m=k
   .subst e;exact .inl u
   exact .inr ⟨m,by omega,by omega,g,u⟩
  .rintro (h | ⟨m,o,q,g⟩)
   .exact ⟨k,Nat.le_refl _,by omega,h⟩
   exact⟨m,by omega,by omega,g⟩
  rintro⟨m,o,q,g⟩
  by_cases e:m=k
  .subst e;exact .inl g
  exact .inr ⟨m,by omega,by omega,g⟩
theorem qt9 {s:Sy} (c:qah s) {n:Nat} (hn:s.n=(n:Int)) (tr:List Lb) (r:∀x∈tr,qat x.g=true):((!(qau s n tr).any id)=true)↔qao s tr=[]:=by
 rw[qk0 c hn tr r]
 constructor
 .intro h;refine List.eq_nil_iff_forall_not_mem.2 λy hy=>?_
  have hr:=qn6 c tr y hy
  have:(marksOf n (qao s tr)).any id=true:=List.any_eq_true.2 ⟨true,List.mem_map.2 ⟨y.toNat,List.mem_range.2 (by omega),by
   rw[show((y.toNat:Nat):Int)=y from by omega]
   exact decide_eq_true hy⟩,rfl⟩
  rw[this]at h
  cases h
 intro h;rw[h,Bool.not_eq_true'];refine Bool.eq_false_iff.2 λo=>?_
 obtain⟨b,q,f⟩:=List.any_eq_true.1 o;obtain⟨i,_,e⟩:=List.mem_map.1 q;subst e;simp at f
theorem qs1 {s:Sy} (c:qah s) {n:Nat} (hn:s.n=(n:Int)) (tr:List Lb) (o:∀x∈tr,qat x.g=true) {f:Int} (q:0<=f) (r:f<s.n):qdf (qau s n tr) f.toNat=true↔f∈qao s tr:=by
 rw[qk0 c hn tr o,qd6 (by rw[qcg];omega),qfn (by rw[qcg];omega),decide_eq_true_eq,show((f.toNat:Nat):Int)=f from by omega]
theorem qu3 (s:Sy) (tr:List Lb) (c:∀x∈tr,qat x.g=true) (i:Nat) (l:Int):(qev s l λy=>decide (y.g = -1) || (match tr[i]? with
 | some x=>qa8 y x
 | none=>false))=qe2 s tr i l:=by
 unfold qe2
 congr 1
 funext y
 cases h:tr[i]? with
 | none=>rfl
 | some x=>simp only[];rw[qwo (c x (List.mem_of_getElem? h))]
theorem up_l {s:Sy} (q:qah s) {n:Nat} (hn:s.n=(n:Int)) (tr:List Lb) (u:∀x∈tr,qat x.g=true) (c:Cv) (A:qc3 s c) (j:Nat):∀k,(qaj (rUp s n tr c k).l j=true↔qaj c.l j=true\/∃m,m<k/\qao s (tr.take (m+1))≠[]/\∃x,tr[m]? = some x/\lbIs s x j)
 | 0=>⟨.inl,λh=>h.resolve_right λ⟨m,z,_⟩=>by omega⟩
 | k+1=>by
  have ih:=up_l q hn tr u c A j k
  have z:qaj (rTr s n tr k (rUp s n tr c k).l) j=true↔qaj (rUp s n tr c k).l j=true\/(qao s (tr.take (k+1))≠[]/\∃x,tr[k]? = some x/\lbIs s x j):=by
   unfold rTr;have o:=qt9 q hn (tr.take (k+1)) λx w=>u x (List.mem_of_mem_take w)
   cases w:tr[k]? with
   | none=>exact⟨.inl,λh=>h.resolve_right λ⟨_,x,f,_⟩=>by cases f⟩
   | some x =>
    simp only[]
    split
    .rename_i r;exact⟨.inl,λh=>h.resolve_right λf=>f.1 (o.1 r)⟩
    rename_i r;have v:=u x (List.mem_of_getElem? w);rw[qpv s [x] _ ((qjy s n tr c k).1.trans A.1) j _ (Nat.le_refl _),qug (by simpa using v)];refine or_congr_right ⟨?_,?_⟩
    .rintro ⟨_,y,hy,h⟩;rw[List.mem_singleton.1 hy]at h;exact⟨λe=>r (o.2 e),x,rfl,h⟩
    rintro⟨_,y,hy,h⟩;injection hy with hy
    rw[<- hy]at h;exact⟨lbIs_lt h,x,by simp,h⟩
  show qaj (rTr s n tr k (rUp s n tr c k).l) j=true↔_;rw[z,ih,or_assoc];refine or_congr_right ⟨?_,?_⟩
  .rintro (⟨m,h,f⟩ | h)
   .exact ⟨m,by omega,f⟩
   exact⟨k,by omega,h⟩
  rintro⟨m,h,f⟩
  by_cases e:m=k
  .subst e;exact .inr f
  exact .inl ⟨m,by omega,f⟩
theorem up_e {s:Sy} (o:qah s) {n:Nat} (hn:s.n=(n:Int)) (tr:List Lb) (r:∀x∈tr,qat x.g=true) (c:Cv) (y:qc3 s c) (j:Nat):∀k,(qaj (rUp s n tr c k).e j=true↔qaj c.e j=true\/∃m,m<k/\∃h:j<s.es.length,s.es[j].f∈qao s (tr.take m)/\qe2 s tr m s.es[j].l=true)
 | 0=>⟨.inl,λh=>h.resolve_right λ⟨m,z,_⟩=>by omega⟩
 | k+1=>by
  have ih:=up_e o hn tr r c y j k;show qaj (rcE s (qau s n (tr.take k)) tr k s.es.length (rUp s n tr c k).e) j=true↔_;rw[rcE_bit _ _ _ _ _ ((qjy s n tr c k).2.trans y.2) j _ (Nat.le_refl _),ih,or_assoc]
  have q:(j<s.es.length/\rHit s (qau s n (tr.take k)) tr k (qcn s j)=true)↔∃h:j<s.es.length,s.es[j].f∈qao s (tr.take k)/\qe2 s tr k s.es[j].l=true:=by
   constructor
   .rintro ⟨h,v⟩;refine⟨h,?_⟩;have hr:0<=s.es[j].f/\s.es[j].f<s.n:=⟨(qfs o ⟨j,h⟩).1,(qfs o ⟨j,h⟩).2.1⟩
    rw[rHit,Bool.and_eq_true,qu3 s tr r,qeo h,qs1 o hn _ (λx w=>r x (List.mem_of_mem_take w)) hr.1 hr.2]at v;exact v
   rintro⟨h,v⟩;refine⟨h,?_⟩;have hr:0<=s.es[j].f/\s.es[j].f<s.n:=⟨(qfs o ⟨j,h⟩).1,(qfs o ⟨j,h⟩).2.1⟩
   rw[rHit,Bool.and_eq_true,qu3 s tr r,qeo h,qs1 o hn _ (λx w=>r x (List.mem_of_mem_take w)) hr.1 hr.2];exact v
  rw[q];refine or_congr_right ⟨?_,?_⟩
  .rintro (⟨m,h,u⟩ | h)
   .exact ⟨m,by omega,u⟩
   exact⟨k,by omega,h⟩
  rintro⟨m,h,u⟩
  by_cases e:m=k
  .subst e;exact .inr u
  exact .inl ⟨m,by omega,u⟩
theorem qpx {s:Sy} (o:qah s) {n:Nat} (hn:s.n=(n:Int)) (t:Te) (D:∀x∈t.tr,qat x.g=true) (L:∀x∈t.mu,qat x.g=true) (c:Cv) (f:qc3 s c):rCov s n t c=qa9 s t c:=by
 have hi:=qo6 o;have u:=qhw f t;have q:=qjy s n t.tr c (t.tr.length+1)
 have J:(rCov s n t c).l.length=(qa9 s t c).l.length:=by
  show(rMu s n t _).length=_;unfold rMu
  split
  .rw [q.1,f.1,u.1]
  rw[qi3,q.1,f.1,u.1]
 have I:(rCov s n t c).e.length=(qa9 s t c).e.length:=by
  show(rUp s n t.tr c (t.tr.length+1)).e.length=_;rw[q.2,f.2,u.2]
 have F:(rCov s n t c).l=(qa9 s t c).l:=by
  refine qki J λj=>Bool.eq_iff_iff.2 ?_
  rw[qa9,(qqf hi t j _ 0 c f).1];have y:=qt9 o hn t.tr D
  have B:qaj (rMu s n t (rUp s n t.tr c (t.tr.length+1)).l) j=true↔qaj (rUp s n t.tr c (t.tr.length+1)).l j=true\/(qao s t.tr≠[]/\∃x∈t.mu,lbIs s x j):=by
   unfold rMu
   split
   .rename_i A;exact⟨.inl,λh=>h.resolve_right λw=>w.1 (y.1 A)⟩
   rename_i A;rw[qpv s t.mu _ (q.1.trans f.1) j _ (Nat.le_refl _),qug L];exact or_congr_right ⟨λh=>⟨λe=>A (y.2 e),h.2⟩,λ⟨_,x,v,h⟩=>⟨lbIs_lt h,x,v,h⟩⟩
  show qaj (rMu s n t (rUp s n t.tr c (t.tr.length+1)).l) j=true↔_;rw[B,up_l o hn t.tr D c f j,or_assoc];refine or_congr_right ⟨?_,?_⟩
  .rintro (⟨m,C,r,x,v,z⟩ | ⟨C,r⟩)
   .have E:=(List.getElem?_eq_some_iff.1 v).1;exact⟨m+1,by omega,by omega,r,.inl ⟨by omega,x,by simpa using v,z⟩⟩
   exact⟨t.tr.length,by omega,by omega,by rw[List.take_length];exact C,.inr ⟨rfl,r⟩⟩
  rintro⟨m,_,C,r,(⟨z,x,v,G⟩ | ⟨rfl,z⟩)⟩
  .refine .inl ⟨m-1,by omega,?_,x,v,G⟩;rw[show m-1+1=m from by omega];exact r
  rw[List.take_length]at r;exact .inr ⟨r,z⟩
 have B:(rCov s n t c).e=(qa9 s t c).e:=by
  refine qki I λj=>Bool.eq_iff_iff.2 ?_
  rw[qa9,(qqf hi t j _ 0 c f).2];show qaj (rUp s n t.tr c (t.tr.length+1)).e j=true↔_;rw[up_e o hn t.tr D c f j];refine or_congr_right ⟨λ⟨m,h,w⟩=>⟨m,Nat.zero_le _,by omega,w⟩,λ⟨m,_,h,w⟩=>⟨m,by omega,w⟩⟩
 show(⟨(rCov s n t c).l,(rCov s n t c).e⟩:Cv)=qa9 s t c;rw[F,B]
theorem covL_or {s:Sy} {c:Cv} (f:qc3 s c) (t:Te):qa9 s t c=orCv c (qa9 s t (cv0 s)):=by
 have q:=qgn s;have g:=qhw f t;have o:=qhw q t
 have r:(qa9 s t c).l=orB c.l (qa9 s t (cv0 s)).l:=qki (by rw[qgi,g.1,f.1]) λi=>by
  rw[(qqx f t i).1,qlt _ _ (f.1.trans o.1.symm)];rfl
 have u:(qa9 s t c).e=orB c.e (qa9 s t (cv0 s)).e:=qki (by rw[qgi,g.2,f.2]) λi=>by
  rw[(qqx f t i).2,qlt _ _ (f.2.trans o.2.symm)];rfl
 show(⟨(qa9 s t c).l,(qa9 s t c).e⟩:Cv)=_;rw[r,u];rfl
theorem qx5 {s:Sy} {ts:List Te} (N:Nat) (v:N=ts.length):mkL (marksOf N (qe5 (qa1 s ts) (s.ls.length+s.es.length+1) (cv0 s) []))=qg2 s ts:=by
 subst v
 have g:∀c∈qa1 s ts,qc3 s c:=λc w=>by
  obtain⟨t,_,rfl⟩:=List.mem_map.1 w;exact qhw (qgn s) t
 have u:ChI s (qa1 s ts) (cv0 s) []:=⟨qgn s,by simp,by simp,λi=>by rw[show(cv0 s).l=List.replicate s.ls.length false from rfl,qh3];simp,λi=>by rw[show(cv0 s).e=List.replicate s.es.length false from rfl,qh3];simp⟩
 obtain⟨b,o,_⟩:=qoe g (s.ls.length+s.es.length+1) (cv0 s) [] (by rw[qne];omega) u;obtain⟨f,r⟩:=nm (qe5 (qa1 s ts) (s.ls.length+s.es.length+1) (cv0 s) []);rw[qg2,r];rw[r]at o
 have hr:∀x∈f,0<=x/\x<ts.length:=λx A=>by
  obtain⟨k,z,e,_⟩:=o.ok x A;rw[qa1,List.length_map]at z;omega
 have hs:(qdp f).Pairwise (· < ·):=by
  have q:=(qh6 f).nodup_iff.2 o.nd;exact((qjf f).and q).imp λ{a b} h=>by have:=h.1;have:=h.2;omega
 refine qlz _ _ (qr9 _) hs λy=>?_
 rw[qog ts.length f hr,qi7]
end
section
open Go.Shelf
theorem qtd {f:Nat} {w:World} {bs:List Bool} {A:Option Addr} {n c:Nat} (h:RBs f w bs (.slice A n c)) (r:0<bs.length):∃g,A=some ⟨g,0,none⟩/\n=bs.length/\f<=g/\g<w.heap.size:=by
 obtain⟨o,u,_⟩:=id h;obtain⟨g,q,e⟩:=Joins.ownsRow_form u r;injection e with e1 e2 e3
 subst e1 e2;have:=h.own_lt (b:=g) rfl;exact⟨g,rfl,rfl,this⟩
theorem rMk_succ (s:Sy) (own:List Lb) (bs:List Bool) {k:Nat} (h:k<s.ls.length):rMk s own (k+1) bs=if (qat s.ls[k].g && hasB own s.ls[k])=true then (rMk s own k bs).set k true else rMk s own k bs:=by
 rw[rMk,rSee,List.getElem?_eq_getElem h]
def MarkPost (base:Nat) (r:List Bool) (v1:Value) (w:World) (e:Ending) (w':World):Prop:=e = .returned (.tuple #[])/\RBs base w' r v1/\Bt (λq=>v1.ownBlock=some q) w w'
theorem rmark_c (S:Nat->Prop) (s:Sy) (cs:List Value) (own:List Lb) (vo:Value) (g:Nat) (bs:List Bool) (z:Nat) (v1 v2:Value) (w:World) (hx:RSy S w s cs) (ho:qaa S w own [vo]) (hb:qaf w g 172 [v1,v2]) (hr:RBs z w bs v1) (G:bs.length=s.ls.length) (hg:v1.ownBlock≠some g) (hS:∀q,S q->v1.ownBlock≠some q) :
  Calls Tryz.prog 198 #[.pointer (some ⟨g,0,none⟩),.agg cs.toArray,vo] w (MarkPost z (rMk s own s.ls.length bs) v1 w):=by
 have HX:=Hd hx;have HO:=Hd ho;have HR:=Hd hr;have HB:=Hd hb;have HG:=Hd hg;have HS:=Hd hS;have HL:=Hd G;obtain⟨_,vl,ve,rfl,V,al⟩:=id hx;obtain⟨Al,cl,rfl,_,_⟩:=V.val;obtain⟨Ae,ce,rfl,_,_⟩:=al.val;obtain⟨Ao,co,rfl,_,_⟩:=ho.val;obtain⟨A1,c1,rfl,_,_⟩:=(hr.sl qac.good (by decide)).val;have ao:=Hd V;have aj:∀q,(Value.slice A1 bs.length c1).ownBlock=some q->q<w.heap.size:=λq e=>(hr.own_lt e).2
 have ae:=Hd aj;clear hx ho hb hr hg hS V al aj;obtain⟨Y,E⟩:=nm (w.alloc (.cells #[.int .i64 s.n,.slice Al s.ls.length cl,.slice Ae s.es.length ce] 25));have ag:Ext w Y:=by rw[<- E];exact(Ext.refl w).alloc _
 have I:qaf Y w.heap.size 25 [.int .i64 s.n,.slice Al s.ls.length cl,.slice Ae s.es.length ce]:=by rw[<- E];exact qaf.new w 25 _
 obtain⟨B0,J⟩:=nm (w.heap.size);rw[J]at I;have aa:=Hd J;have an:=Hd I;have ac:=Hd ag;have aq:=Hd E;obtain⟨X,U⟩:=nm (bs.length);rw[U]at HR HB HG HS ae HL ⊢;have aH:X=s.ls.length:=HL.out;have ad:=Hd U;clear E ag I J U G
 go_enter Tryz.func198,Tryz.ntmps198
 go_upto_region 1 with (fail)
 rw[aq.out,aa.out]
 go_wp2_with fail
 go_loopw [6] (λvi wr=>∃k:Nat,k<=s.ls.length/\vi = .int .i64 k/\Bt (λq=>(Value.slice A1 X c1).ownBlock=some q) Y wr/\Hid (RBs z wr (rMk s own k bs) (.slice A1 X c1))) (λvi _=>s.ls.length-(intOf vi).toNat)
 case atStart=>exact⟨0,Nat.zero_le _,rfl,Bt.refl _ _,HR.out.ext qac.good ac.out⟩
 obtain⟨k,hk,rfl,A,f⟩:=hrel;have M:Bt (λq=>(Value.slice A1 X c1).ownBlock=some q) w wr:=ac.out.bt.trans A;have N:=an.out.bt A (λe=>by have:=ae.out _ e;have:=aa.out;omega);have x1:=N.cell 1 _;have xz:=N.lt;have y:=HB.out.bt M HG.out;have y0:=y.cell 0 _;have yz:=y.lt;clear N y
 by_cases T:k<s.ls.length
 .obtain ⟨gv,rfl,_,aF,aG⟩:=qtd f.out (by rw[qi3,ad.out];omega);have L:Kp S w wr:=M.kp λq _ hq h=>HS.out q hq h
  obtain⟨b,aI,aB,rfl,hb,av,hl,hr,C⟩:=(qaa.good.move ao.out L).get k T;have o:=λW (hW:Ext wr W)=>has_c S own _ s.ls[k] _ W (qaa.good.bel (qaa.good.move HO.out L) hW) (RLb.good.bel hr hW)
  obtain⟨_,vx,rfl,ax⟩:=id hr;obtain⟨a0,a1⟩:=g2 C;have ak:=rMk_succ s own bs T;have D:(rMk s own k bs).length=X:=by rw[qi3,ad.out]
  obtain⟨uu,gc,aw,gf⟩:=qab.get1 f.out k (by omega);have af:=Hd (qab.put1 qac.good f.out D.symm k (.bool true) true (by omega) rfl);have u:=Hd ak;have O:k+1<=s.ls.length:=T;obtain⟨gx,y⟩:=nm (s.ls[k].g);rw[y]at a0 o u;obtain⟨bh,ah⟩:=nm (hasB own s.ls[k]);rw[ah]at o u;obtain⟨bv,ai⟩:=nm (qat gx);have r:=λW=>qpz gx vx W
  rw[ai]at r u;have z1:(0:Int)<=(k:Int):=by omega
  have z2:(k:Int)<(X:Int):=by omega
  have z3:(k:Int)<(s.ls.length:Int):=by omega
  clear C hl av hr ax y ah ai ak aw L
  cases bv
  .go_wp2_with fail
   refine(r _).mono ?_;rintro e w4 ⟨rfl,c⟩
   go_wp2_with fail
   go_roundw
   case rel=>exact⟨k+1,O,by go_num,A.ext c,by show RBs _ _ _ _;rw[u.out];exact f.out.ext qac.good c⟩
   simp[intOf];omega
  go_wp2_with fail
  refine(r _).mono ?_;rintro e w4 ⟨rfl,c⟩;have hh:=o w4 c;have ar:=Ext.keep c a0;have au:=Ext.keep c a1;have ay:=Ext.keep c x1;have am:=Ext.keep c y0;have az:=Nat.lt_of_lt_of_le xz c.size;have aA:=Nat.lt_of_lt_of_le yz c.size;have aE:=Nat.lt_of_lt_of_le hb c.size;clear o r a0 a1 x1 y0
  go_wp2_with fail
  refine hh.mono ?_;rintro e w5 ⟨rfl,F⟩;have v:Ext wr w5:=c.trans' F
  cases bh
  .go_wp2_with fail
   go_roundw
   case rel=>exact⟨k+1,O,by go_num,A.ext v,by show RBs _ _ _ _;rw[u.out];exact f.out.ext qac.good v⟩
   simp[intOf];omega
  have aJ:=Ext.keep F am;have aK:=Nat.lt_of_lt_of_le aA F.size;have aC:=Ext.keep v gc;have aD:=qdy v (World.block_lt_of_cell? _ _ gc) gf;have ap:=Hd (qab.put1 qac.good (f.out.ext qac.good v) D.symm k (.bool true) true (by omega) rfl);have ab:Hid (Bt (λq=>(Value.slice (some ⟨gv,0,none⟩) X c1).ownBlock=some q) Y (w5.setCell ⟨gv,k,none⟩ (.bool true))):=(A.ext v).set (p:=⟨gv,k,none⟩) (.inr rfl) _;clear af gc gf hh ar au ay am az c F
  go_wp2_with fail
  go_roundw
  case rel=>exact⟨k+1,O,by go_num,ab.out,by show RBs _ _ _ _;rw[u.out];exact ap.out⟩
  simp[intOf];omega
 obtain rfl:k=s.ls.length:=by omega
 go_wp2_with fail
 go_end0
 exact⟨rfl,f.out,M⟩
end
section
variable {s:Sy}
end
section
open Go.Shelf
end
section
open Go.Shelf
end
section
open Go.Shelf
end
section
open Go.Shelf
end
section
open Go.Shelf
theorem none_take {l:List Bool} {k:Nat} (h:k<l.length):(l.take (k+1)).any id=((l.take k).any id || l[k]):=by
 rw[List.take_succ_eq_append_getElem h,List.any_append,List.any_cons,List.any_nil,Bool.or_false];rfl
theorem none_c (S:Nat->Prop) (l:List Bool) (v:Value) (w:World) (F:RSl qac 1 S w l [v]):Calls Tryz.prog 92 #[v] w λe O=>e = .returned (.bool (!l.any id))/\Ext w O:=by
 obtain⟨A,c,rfl,U,M⟩:=F.val;have J:=Hd F;clear F
 go_enter Tryz.func92,Tryz.ntmps92
 go_wp2_with fail
 go_loopw [3] (λG wr=>∃k:Nat,k<=l.length/\G = .int .i64 k/\Ext w wr/\Hid ((l.take k).any id=false)) (λG _=>l.length-(intOf G).toNat)
 case atStart=>exact⟨0,Nat.zero_le _,rfl,Ext.refl _,(rfl:([]:List Bool).any id=false)⟩
 obtain⟨k,V,rfl,u,r⟩:=hrel
 by_cases g:k<l.length
 .obtain ⟨b,N,cs,rfl,T,C,E,hr,f⟩:=((RSl.good qac.good).bel J.out u).get k g;obtain rfl:cs=[.bool l[k]]:=hr;have a0:=f.get 0 _;simp only[Nat.add_zero,Nat.mul_one]at a0;have o:=none_take g;have y:l[k]=true->l.any id=true:=λh=>List.any_eq_true.2 ⟨l[k],List.getElem_mem g,h⟩
  obtain⟨B,q⟩:=nm (l[k]);rw[q]at a0 o y;have D:k+1<=l.length:=g;clear E f C q
  cases B
  .have z:=Hd o;clear o y
   go_wp2_with fail
   go_roundw
   case rel=>exact⟨k+1,D,by go_num,u,(by rw[z.out,r.out];rfl:(l.take (k+1)).any id=false)⟩
   simp[intOf];omega
  have L:=Hd (y rfl);clear o y
  go_wp2_with fail
  go_ret;exact⟨by rw[L.out];rfl,u⟩
 obtain rfl:k=l.length:=by omega
 have I:Hid (l.any id=false):=by have h:=r.out;rw[List.take_length]at h;exact h
 go_wp2_with fail
 go_ret;exact⟨by rw[I.out];rfl,u⟩
end
section
open Go.Shelf
theorem rcE_succ (s:Sy) (bs:List Bool) (tr:List Lb) (i:Nat) (c:List Bool) (k:Nat) (f:k<s.es.length):rcE s bs tr i (k+1) c=if rHit s bs tr i s.es[k]=true then (rcE s bs tr i k c).set k true else rcE s bs tr i k c:=by
 rw[rcE,qeo f]
theorem rHit_at {s:Sy} {bs:List Bool} {tr:List Lb} {i f c:Nat} {t:Int} (hf:f<bs.length) (o:c<s.ls.length):rHit s bs tr i ⟨(f:Int),(c:Int),t⟩=(bs[f] && (decide (s.ls[c].g = -1) || (match tr[i]? with
 | some x=>qa8 s.ls[c] x
 | none=>false))):=by
 rw[rHit,Int.toNat_natCast,qd6 hf,qhb s _ rfl o]
 try rfl
def AddI (s:Sy) (n:Nat) (tr:List Lb) (c0:Cv) (base:Nat) (Z:Nat->Prop) (W0:World) (v1 v2:Value) (i:Nat) (v6:Value) (wr:World):Prop:=Bt Z W0 wr/\RSl qac 1 (λq=>W0.heap.size<=q) wr (qau s n (tr.take i)) [v6]/\RBs base wr (rUp s n tr c0 i).l v1/\RBs base wr (rUp s n tr c0 i).e v2
def RAddPost (base:Nat) (c:Cv) (v1 v2:Value) (w:World) (e:Ending) (w':World):Prop:=e = .returned (.tuple #[])/\RCv base w' c v1 v2/\Bt (ZCv v1 v2) w w'
theorem radd_c (S:Nat->Prop) (s:Sy) (aq:qah s) (cs:List Value) (n:Nat) (hn:s.n=(n:Int)) (t:Te) (cp:List Value) (g:Nat) (c0:Cv) (C:Nat) (v1 v2:Value) (w:World) (hx:RSy S w s cs) (ht:RTe S w t cp) (hb:qaf w g 172 [v1,v2]) (hr:RCv C w c0 v1 v2) (aB:qc3 s c0) (hg:¬ ZCv v1 v2 g) (hS:∀q,S q->¬ ZCv v1 v2 q) (dZ:t.tr.length<=1000000) :
  Calls Tryz.prog 129 #[.pointer (some ⟨g,0,none⟩),.agg cs.toArray,.agg cp.toArray] w (RAddPost C (rCov s n t c0) v1 v2 w):=by
 obtain⟨Z,hZ⟩:=nm (ZCv v1 v2);have ba:=Hd hZ;rw[hZ]at hg hS;have a9:Hid (∀q,v1.ownBlock=some q->Z q):=λq h=>by rw[<- hZ];exact .inl h
 have co:Hid (∀q,v2.ownBlock=some q->Z q):=λq h=>by rw[<- hZ];exact .inr h
 have HZlt:Hid (∀q,Z q->C<=q/\q<w.heap.size):=λq h=>by
  rw[<- hZ]at h
  rcases h with h | h
  .exact hr.l.own_lt h
  exact hr.e.own_lt h
 have ae:=Hd hr.ap;have cd:=Hd hr.l;have cg:=Hd hr.e;have HX:=Hd hx;have aK:=Hd hb;have HG:=Hd hg;have HS:=Hd hS;have HN:=Hd hn;have c9:=Hd aq;have aN:=Hd aB;have a7:=λW (hW:Ext w W)=>qpt S s aq cs n hn W (RSy.good.bel hx hW)
 have b9:=Hd (λW (hW:RSy (λq=>S q\/w.heap.size<=q) W s cs) bs (cB:bs.length=n) v (hm:RSl qac 1 (λq=>S q\/w.heap.size<=q) W bs [v]) x cx (dq:RLb (λq=>S q\/w.heap.size<=q) W x cx)=>qpo _ s aq cs n hn bs cB v x cx W hW hm dq);have aP:=Hd (λW (hW:RSy S W s cs) own vo (ho:qaa S W own [vo]) bs (dl:qaf W g 172 [v1,v2]) (dt:RBs C W bs v1) (hl:bs.length=s.ls.length)=>rmark_c S s cs own vo g bs C v1 v2 W hW ho dl dt hl (λh=>hg (by rw[<- hZ];exact .inl h)) (λq hq h=>hS q hq (by rw[<- hZ];exact .inl h)));obtain⟨_,vl,ve,rfl,bP,bO⟩:=id hx;obtain⟨Al,cl,rfl,_,_⟩:=bP.val;obtain⟨Ae,ce,rfl,_,_⟩:=bO.val;obtain⟨vt,vm,rfl,bR,bQ⟩:=id ht;obtain⟨At,ct,rfl,dH,dG⟩:=bR.val;obtain⟨Am,cm,rfl,dF,dE⟩:=bQ.val;obtain⟨A1,c1,rfl,cD,dC⟩:=(hr.l.sl qac.good (by decide)).val;obtain⟨A2,c2,rfl,cE,dD⟩:=(hr.e.sl qac.good (by decide)).val;have cG:=aB.1;have cH:=aB.2;rw[cG]at a9 cd aK aP ba ae cD ⊢;rw[cH]at co cg aK aP ba ae cE ⊢;have c4:=Hd bP;have cZ:=Hd bO;have bA:=Hd bR;have c7:=Hd bQ;have dU:=aq.2.2.2.1;have dX:0<n:=by have:=aq.1;omega
 have dY:n<=20000:=by have:=aq.2.1;omega
 clear hx ht hb hr aB hg hS hZ bP bO bR bQ cG cH aq hn;rw[HN.out]at HX a7 b9 aP ⊢;obtain⟨Wa,aV⟩:=nm (w.alloc (.cells #[.int .i64 (n:Int),.slice Al s.ls.length cl,.slice Ae s.es.length ce] 25));have cq:qaf Wa w.heap.size 25 [.int .i64 (n:Int),.slice Al s.ls.length cl,.slice Ae s.es.length ce]:=by rw[<- aV];exact qaf.new w 25 _
 have bT:Wa.heap.size=w.heap.size+1:=by rw[<- aV,World.size_alloc]
 have cr:Ext w Wa:=by rw[<- aV];exact(Ext.refl w).alloc _
 obtain⟨W0,aU⟩:=nm (Wa.alloc (.cells #[.slice At t.tr.length ct,.slice Am t.mu.length cm] 40));have aT:qaf W0 (w.heap.size+1) 40 [.slice At t.tr.length ct,.slice Am t.mu.length cm]:=by rw[<- aU,<- bT];exact qaf.new Wa 40 _
 have bF:Ext Wa W0:=by rw[<- aU];exact(Ext.refl Wa).alloc _
 have cY:W0.heap.size=w.heap.size+2:=by rw[<- aU,World.size_alloc,bT]
 have ah:=cq.ext bF;have af:Hid (Ext w W0):=cr.trans' bF;have HW:Hid ((w.alloc (.cells #[.int .i64 (n:Int),.slice Al s.ls.length cl,.slice Ae s.es.length ce] 25)).alloc (.cells #[.slice At t.tr.length ct,.slice Am t.mu.length cm] 40)=W0):=by show _=_;rw[aV,aU]
 obtain⟨B0,av⟩:=nm (w.heap.size);obtain⟨B1,aw⟩:=nm (w.heap.size+1);rw[av]at ah;rw[aw]at aT;have bU:=Hd ah;have bo:=Hd aT;have U:Hid (B0=w.heap.size/\B1=w.heap.size+1/\W0.heap.size=w.heap.size+2):=⟨av.symm,aw.symm,cY⟩
 have HBq0:=Hd av;have HBq1:=Hd aw;have a6:=a7 W0 af.out;have x0:=ah.cell 0 _;have x1:=ah.cell 1 _;have x2:=ah.cell 2 _;have xz:=ah.lt;have y0:=aT.cell 0 _;have yz:=aT.lt;clear aV cq bT cr aU aT bF cY ah av aw a7
 go_enter Tryz.func129,Tryz.ntmps129
 go_upto_region 1 with (fail)
 rw[HW.out,HBq1.out,HBq0.out]
 go_wp2_with fail
 refine a6.mono ?_;rintro e w1 ⟨A,c,rfl,ho,h1⟩;have dd:Hid (AddI s n t.tr c0 C Z W0 (.slice A1 s.ls.length c1) (.slice A2 s.es.length c2) 0 (.slice A n c) w1):=⟨h1.bt,(RSl.good qac.good).mono (ho.sl qac.good (by decide)) λq _ h=>h.resolve_left id,cd.out.ext qac.good (af.out.trans' h1),cg.out.ext qac.good (af.out.trans' h1)⟩
 have r:=bo.out.ext h1;clear x0 x1 x2 xz y0 yz;have y0:=r.cell 0 _;have yz:=r.lt;clear ho h1 a6 r
 go_wp2_with fail
 clear y0 yz
 go_loopw [6,7] (λv6 vi wr=>∃(i:Nat) (A:Option Addr) (c:Nat),i<=t.tr.length+1/\vi = .int .i64 i/\v6 = .slice A n c/\Hid (AddI s n t.tr c0 C Z W0 (.slice A1 s.ls.length c1) (.slice A2 s.es.length c2) i (.slice A n c) wr)) (λ_ vi _=>t.tr.length+1-(intOf vi).toNat)
 case atStart=>exact⟨0,A,c,Nat.zero_le _,rfl,rfl,dd.out⟩
 obtain⟨i,A,c,hi,rfl,rfl,hI⟩:=hrel;have E:=hI.out.1;have u:=bU.out.bt E (λh=>by have:=(HZlt.out _ h).2;have:=U.out;omega);have r:=bo.out.bt E (λh=>by have:=(HZlt.out _ h).2;have:=U.out;omega);have x0:=u.cell 0 _;have x1:=u.cell 1 _;have x2:=u.cell 2 _;have xz:=u.lt;have y0:=r.cell 0 _;have y1:=r.cell 1 _;have yz:=r.lt;have aO:Hid (∀X,Bt Z W0 X->Kp S w X):=λX hX=>(af.out.bt.trans hX).kp λq _ hq h=>HS.out q hq h
 by_cases dp:i<=t.tr.length
 .obtain ⟨BS,aS⟩:=nm (qau s n (t.tr.take i));obtain⟨L0,aj⟩:=nm ((rUp s n t.tr c0 i).l);obtain⟨E0,L⟩:=nm ((rUp s n t.tr c0 i).e);have au:=qjy s n t.tr c0 i;have bj:BS.length=n:=by rw[<- aS];exact qjx s n HN.out _
  have bk:E0.length=s.es.length:=by rw[<- L,au.2];exact aN.out.2
  have bn:L0.length=s.ls.length:=by rw[<- aj,au.1];exact aN.out.1
  have V:Hid (rUp s n t.tr c0 (i+1)=⟨rTr s n t.tr i L0,rcE s BS t.tr i s.es.length E0⟩):=by show _=_;rw[rUp,aj,L,aS]
  have bX:=Hd aS;obtain⟨_,al,ak,ai⟩:=hI.out;rw[aS]at al;rw[aj]at ak;rw[L]at ai;have ch:=Hd al;have bx:=Hd ak;have br:=Hd ai;have bq:=Hd E;have b5:=Hd bk;have b7:=Hd bn;have bi:=Hd bj;obtain⟨wA,rfl⟩:∃wA,wA=wr:=⟨_,rfl⟩
  have dW:(i:Int)<=(t.tr.length:Int):=by omega
  clear aS aj L al ak ai au hI u r bj bk bn E
  go_wp2_with fail
  clear x0 x1 x2 xz y0 y1 yz
  go_loopw [8] (λvk wr=>∃k:Nat,k<=s.es.length/\vk = .int .i64 k/\Bt Z wA wr/\Hid (RBs C wr (rcE s BS t.tr i k E0) (.slice A2 s.es.length c2))/\Hid (RBs C wr L0 (.slice A1 s.ls.length c1))) (λvk _=>s.es.length-(intOf vk).toNat)
  case atStart=>exact⟨0,Nat.zero_le _,rfl,Bt.refl _ _,br.out,bx.out⟩
  obtain⟨k,hk,rfl,E,bb,bc⟩:=hrel;have G:=bq.out.trans E;have u:=bU.out.bt G (λh=>by have:=(HZlt.out _ h).2;have:=U.out;omega);have r:=bo.out.bt G (λh=>by have:=(HZlt.out _ h).2;have:=U.out;omega);have d4:=G.size
  by_cases aG:k<s.es.length
  .have bI:=aO.out wr G;have cF:=qjs c9.out k aG;obtain⟨b,d5,dQ,rfl,cB,di,dn,hr,aX⟩:=(qa3.good.move cZ.out bI).get k aG;obtain⟨jf,dv,dw,rfl⟩:=id hr;obtain⟨d0,d1,d2⟩:=g3 aX;have bM:=qeo aG;have aa:=rcE_succ s BS t.tr i E0 k aG;obtain⟨⟨f,l,tt⟩,aJ⟩:∃x,s.es[k]=x:=⟨_,rfl⟩
   rw[aJ]at d0 d1 d2 bM aa;rw[bM]at cF;simp only at d0 d1 d2 cF;obtain⟨li,rfl⟩:∃li:Nat,l=(li:Int):=⟨l.toNat,by omega⟩
   obtain⟨fi,rfl⟩:∃fi:Nat,f=(fi:Int):=⟨f.toNat,by omega⟩
   have cO:li<s.ls.length:=by omega
   have dV:fi<n:=by have:=HN.out;omega
   have cI:fi<BS.length:=by have:=bi.out;omega
   have o:=rHit_at (s:=s) (bs:=BS) (tr:=t.tr) (i:=i) (t:=tt) cI cO;obtain⟨b2,dL,dR,rfl,dT,cu,dm,bN,az⟩:=(qaa.good.move c4.out bI).get li cO;have bg:=RLb.good.mono bN (S':=λ_=>True) λ_ _ _=>trivial
   obtain⟨jg,vx,rfl,cT⟩:=id bN;obtain⟨Ax,nx,cx,rfl⟩:∃A n c,vx = .slice A n c:=by obtain⟨A,c,h,_⟩:=cT.val;exact⟨A,_,c,h⟩
   obtain⟨e0,e1⟩:=g2 az;have a6:=(RSl.good qac.good).move ch.out (E.kp λq _ hq h=>by have:=(HZlt.out _ h).2;have:=U.out;omega);obtain⟨b3,dM,df,rfl,dj,_,_,ds,aA⟩:=a6.get fi cI;obtain rfl:df=[.bool BS[fi]]:=ds;have s0:=aA.get 0 _;simp only[Nat.add_zero,Nat.mul_one]at s0;obtain⟨gx,cL⟩:=nm (s.ls[li].g);rw[cL]at e0 bg o;obtain⟨xL,cV⟩:=nm (s.ls[li]);rw[cV]at bg o;obtain⟨bf,cA⟩:=nm (BS[fi]);rw[cA]at s0 o;obtain⟨bH,cz⟩:=nm (rHit s BS t.tr i ⟨(fi:Int),(li:Int),tt⟩);rw[cz]at o aa;have aR:=Hd aa;have da:=Hd bg;have cN:k+1<=s.es.length:=aG;have x1:=u.cell 1 _;have x2:=u.cell 2 _;have xz:=u.lt;have y0:=r.cell 0 _;have yz:=r.lt;have O:=λ(h:i<t.tr.length)=>(qaa.good.move bA.out bI).get i h
   clear aX az aA dn dm di cu hr bN aJ bM aa jf dv dw cT jg cL cV cA cz a6 bg u r
   go_upto_region 10 with (fail)
   obtain⟨Wv,aW⟩:=nm (wr.alloc (.cells #[.int .i64 (fi:Int),.int .i64 (li:Int),.int .i64 tt] 88));have cS:qaf Wv wr.heap.size 88 [.int .i64 (fi:Int),.int .i64 (li:Int),.int .i64 tt]:=by rw[<- aW];exact qaf.new wr 88 _
   have cX:Ext wr Wv:=by rw[<- aW];exact(Ext.refl _).alloc _
   have cU:Wv.heap.size=wr.heap.size+1:=by rw[<- aW,World.size_alloc]
   obtain⟨We,bd⟩:=nm (Wv.alloc (.cells #[.int .i64 gx,.slice Ax nx cx] 61));have aZ:qaf We (wr.heap.size+1) 61 [.int .i64 gx,.slice Ax nx cx]:=by rw[<- bd,<- cU];exact qaf.new Wv 61 _
   have aJ:Ext Wv We:=by rw[<- bd];exact(Ext.refl _).alloc _
   have aD:=cS.ext aJ;have aF:Ext wr We:=cX.trans' aJ;rw[aW,bd];obtain⟨Bp,bD⟩:=nm (wr.heap.size);obtain⟨Bq,bE⟩:=nm (wr.heap.size+1);rw[bE]at aZ;rw[bD]at aD;rw[bE,bD];have p0:=aD.cell 0 _;have pz:=aD.lt;have q0:=aZ.cell 0 _;have q1:=aZ.cell 1 _;have qz:=aZ.lt;have dz:=Ext.keep aF y0;have dA:=Nat.lt_of_lt_of_le yz aF.size;have dx:=Ext.keep aF s0;have de:=Nat.lt_of_lt_of_le dj aF.size;have aE:=Hd aF;have z1:(0:Int)<=(fi:Int):=by omega
   have z2:(fi:Int)<(n:Int):=by omega
   clear aW cS cX cU bd aJ aD aZ bD bE d0 d1 d2 e0 e1 s0 aF x1 x2 y0 yz
   go_cut [63] (λdy wx=>dy = .bool bH/\Hid (Ext We wx))
   case first =>
    cases bf
    .have HH:Hid (bH=false):=o;clear o O
     go_wp2_with fail
     (refine qap ?_;(repeat (first | go_big_quiet_step ((fail)) | quiet_step ((fail))));refine wpQuiet_nil ?_)
     intro w4 N
     go_wp2_with fail
     go_meet
     exact⟨by rw[HH.out],N⟩
    by_cases a1:gx = -1
    .subst a1;have HH:Hid (bH=true):=o;clear o O
     go_wp2_with fail
     (refine qap ?_;(repeat (first | go_big_quiet_step ((fail)) | quiet_step ((fail))));refine wpQuiet_nil ?_)
     intro w4 N
     go_wp2_with fail
     go_meet
     exact⟨by rw[HH.out],N⟩
    have be:(gx == -1)=false:=beq_eq_false_iff_ne.2 a1;rw[decide_eq_false a1]at o
    by_cases I:i<t.tr.length
    .obtain ⟨b4,ad,dg,rfl,cy,_,_,ar,z⟩:=O I;rw[List.getElem?_eq_getElem I]at o;have D:=λW (hW:Ext We W)=>qk9 (λ_=>True) xL t.tr[i] _ _ W (RLb.good.bel da.out (aE.out.trans' hW)) (RLb.good.bel (RLb.good.mono ar λ_ _ _=>trivial) (aE.out.trans' hW))
     obtain⟨_,v4,rfl,_⟩:=id ar;have t0:=Ext.keep aE.out (z.get 0 _);have t1:=Ext.keep aE.out (z.get 1 _);simp only[Nat.add_zero]at t0;have dO:=Nat.lt_of_lt_of_le cy aE.out.size;have HH:Hid (bH=qa8 xL t.tr[i]):=o;obtain⟨bm,cC⟩:=nm (qa8 xL t.tr[i]);rw[cC]at D HH;obtain⟨g4,cJ⟩:=nm (t.tr[i].g);rw[cJ]at D t0;have i1:(0:Int)<=(i:Int):=by omega
     have i2:(i:Int)<(t.tr.length:Int):=by omega
     have cw:∀(y:World),Ext We (qam We y):=λy=>qa7 _ y
     clear o O z ar cC cJ a1
     go_wp2_with fail
     (refine qap ?_;(repeat (first | go_big_quiet_step ((go_at_call 133;exact qaq (D _ (cw _)))) | quiet_step ((go_at_call 133;exact qaq (D _ (cw _))))));refine wpQuiet_nil ?_)
     intro w4 N
     go_wp2_with fail
     go_meet
     exact⟨by rw[HH.out],N⟩
    rw[List.getElem?_eq_none (Nat.le_of_not_lt I)]at o;have HH:Hid (bH=false):=o;have i2:¬ (i:Int)<(t.tr.length:Int):=by omega
    clear o O a1
    go_wp2_with fail
    (refine qap ?_;(repeat (first | go_big_quiet_step ((fail)) | quiet_step ((fail))));refine wpQuiet_nil ?_)
    intro w4 N
    go_wp2_with fail
    go_meet
    exact⟨by rw[HH.out],N⟩
   rename World=>w4
   obtain⟨rfl,N⟩:=hcut;have ag:Hid (Ext wr w4):=aE.out.trans' N.out;clear p0 pz q0 q1 qz dz dA dx de N o O
   cases bH
   .go_wp2_with fail
    go_roundw
    case rel=>exact⟨k+1,cN,by go_num,E.ext ag.out,by show RBs _ _ _ _;rw[aR.out];exact bb.out.ext qac.good ag.out,bc.out.ext qac.good ag.out⟩
    simp[intOf];omega
   have bG:=bb.out.ext qac.good ag.out;have bL:(rcE s BS t.tr i k E0).length=s.es.length:=by rw[qkp];exact b5.out
   obtain⟨gv,rfl,dr,dI,dJ⟩:=qtd bG (by omega);clear dr;obtain⟨uu,gc,du,gf⟩:=qab.get1 bG k (by omega);have cc:=Hd (qab.put1 qac.good bG bL.symm k (.bool true) true (by omega) rfl);have bY:Hid (Bt Z wA (w4.setCell ⟨gv,k,none⟩ (.bool true))):=(E.ext ag.out).set (p:=⟨gv,k,none⟩) (.inr (co.out gv rfl)) _;have c3:Hid (RBs C (w4.setCell ⟨gv,k,none⟩ (.bool true)) L0 (.slice A1 s.ls.length c1)):=qe6 (bc.out.ext qac.good ag.out) (Bt.set (Z:=λq=>q=gv) (p:=⟨gv,k,none⟩) (Bt.refl _ _) (.inr rfl) _) λq e h=>ae.out q e (by rw[h];rfl)
   have be:=aK.out.bt ((af.out.bt.trans G).ext ag.out) HG.out;have dP:=be.cell 1 _;have dS:=be.lt;have z3:(0:Int)<=(k:Int):=by omega
   have z4:(k:Int)<(s.es.length:Int):=by omega
   clear du be
   go_wp2_with fail
   go_roundw
   case rel=>exact⟨k+1,cN,by go_num,bY.out,by show RBs _ _ _ _;rw[aR.out];exact cc.out,c3.out⟩
   simp[intOf];omega
  obtain rfl:k=s.es.length:=by omega
  have T:=Hd u;have dB:=Hd r;have y0:=r.cell 0 _;have yz:=r.lt;have aL:=Hd G;have bv:=bb;have b8:=bc;have ck:=Hd ((RSl.good qac.good).move ch.out (E.kp λq _ hq h=>by have:=(HZlt.out _ h).2;have:=U.out;omega));have b6:=Hd (aO.out wr G);obtain⟨E1,bl⟩:=nm (rcE s BS t.tr i s.es.length E0);rw[bl]at bv V;clear E bb bc u r bl G aG;obtain⟨w9,rfl⟩:∃w9,w9=wr:=⟨_,rfl⟩
  have aQ:=λ(I:i<t.tr.length)=>(show qau s n (t.tr.take (i+1))=qdb s (marksOf n (mvL s t.tr[i] BS s.es.length)) from by rw[List.take_succ_eq_append_getElem I,qmb,bX.out];rfl)
  by_cases I:i<t.tr.length
  .have cv:=RSy.good.move HX.out b6.out;obtain⟨b4,ad,dg,rfl,cy,dh,_,ar,z⟩:=(qaa.good.move bA.out b6.out).get i I;have aH:=λW (hW:Ext w9 W)=>b9.out W (RSy.good.bel (RSy.good.mono cv λ_ _ h=>.inl h) hW) BS bi.out _ ((RSl.good qac.good).bel ((RSl.good qac.good).mono ck.out λq _ h=>.inr (by have:=U.out;omega)) hW) t.tr[i] _ (RLb.good.bel (RLb.good.mono ar λ_ _ h=>.inl h) hW)
   have cP:=aQ I;have ac:rTr s n t.tr i L0=if (!(qau s n (t.tr.take (i+1))).any id)=true then L0 else rMk s [t.tr[i]] s.ls.length L0:=by rw[rTr,List.getElem?_eq_getElem I]
   rw[<- cP]at aH;have aC:=λW (hW:Kp S w W)=>RSl.sub1 (qaa.good.move bA.out hW) i I
   rw[show(t.tr.drop i).take 1=[t.tr[i]] from by rw[List.drop_eq_getElem_cons I];rfl]at aC;obtain⟨_,v4,rfl,_⟩:=id ar;obtain⟨t0,t1⟩:=g2 z;obtain⟨xT,cW⟩:=nm (t.tr[i]);rw[cW]at aH t0 ac aC;obtain⟨gT,cK⟩:=nm (xT.g);rw[cK]at aH t0;obtain⟨BN,bC⟩:=nm (qau s n (t.tr.take (i+1)));rw[bC]at aH ac;obtain⟨nb,aI⟩:=nm ((!BN.any id));rw[aI]at ac;rw[ac]at V;have bh:=Hd bC;have c8:=Hd aI;have cb:=Hd aC;have ca:=Hd aH;have x0:=T.out.cell 0 _;have x1:=T.out.cell 1 _;have x2:=T.out.cell 2 _;have xz:=T.out.lt;have i1:(0:Int)<=(i:Int):=by omega
   have i2:(i:Int)<(t.tr.length:Int):=by omega
   clear cv dh ar z aH cP ac cW cK bC aI aC aQ
   go_wp2_with fail
   refine qek (λW=>W.cell? ⟨B0,0,none⟩=some (.int .i64 (n:Int))/\W.cell? ⟨B0,1,none⟩=some (.slice Al s.ls.length cl)/\W.cell? ⟨B0,2,none⟩=some (.slice Ae s.es.length ce)/\W.cell? ⟨B1,0,none⟩=some (.slice (some ⟨b4,ad,none⟩) t.tr.length ct)/\W.cell? ⟨b4,ad+i*2,none⟩=some (.int .i64 gT)/\W.cell? ⟨b4,ad+i*2+1,none⟩=some v4) (by kernel_rfl) (by rfl) (by kernel_rfl) ⟨x0,x1,x2,y0,t0,t1⟩ (λhHeld=>?_);dsimp only[List.dropLast,List.getLastD,List.getLast?,List.getLast];obtain⟨Wd,am⟩:=nm (w9.drew);have Y:Ext w9 Wd:=am ▸ Below.drew (Ext.refl _);rw[am]at hHeld ⊢;clear am x0 x1 x2 y0 t0 t1
   (refine tk 0 ?_;try simp only[qae])
   (refine tk 1 ?_;try simp only[qae])
   (refine tk 2 ?_;try simp only[qae])
   (refine tk 3 ?_;try simp only[qae])
   (refine tk 4 ?_;try simp only[qae])
   (refine tk 5 ?_;try simp only[qae])
   (refine tk 6 ?_;try simp only[qae])
   refine wpAnyH_ready (rs:=[7]) (by kernel_rfl) (by simp) ?_;refine AllReadyH.cons rfl (λK hK=>?_) AllReadyH.nil;go_simp;refine(ca.out Wd Y).mono ?_;rintro e w5 ⟨A5,c5,rfl,cQ,bS⟩;refine hK.out _ _ (Ext.k6 bS hHeld) (λax=>?_);clear hK K
   try simp only[qae]
   refine wpAnyH_done (by kernel_rfl) ?_ _;show Oper.wp _ _ _ _ _ _;go_simp;have bB:Hid (Ext w9 w5):=Y.trans' bS
   have ci:Hid (RSl qac 1 (λq=>W0.heap.size<=q) w5 BN [.slice A5 n c5]):=(RSl.good qac.good).mono (cQ.sl qac.good (by decide)) λq _ h=>by
    rcases h with h | h
    .exact h.elim
    have:=aL.out.size;have:=Y.size;omega
   have ao:=none_c (λ_=>True) BN _ w5 ((RSl.good qac.good).mono ci.out λ_ _ _=>trivial);rw[c8.out]at ao;have bw:=Hd ax;have b0:Hid (Bt Z W0 w5):=aL.out.ext bB.out;clear hHeld ax cQ bS Y
   go_wp2_with fail
   refine ao.mono ?_;rintro e w6 ⟨rfl,F⟩;have an:=b8.out.ext qac.good (bB.out.trans' F);have aM:=Hd (bv.out.ext qac.good (bB.out.trans' F));have cj:=Hd ((RSl.good qac.good).bel ci.out F);have M:=b0.out.ext F;have a8:=Hd an;have J:=Hd M;have cM:=Ext.k6 F bw.out;clear an M ao
   cases nb
   rotate_left
   .clear cM
    go_wp2_with fail
    go_roundw
    case rel=>exact⟨i+1,A5,c5,by omega,by go_num,rfl,J.out,by rw[bh.out];exact cj.out,by rw[V.out];exact a8.out,by rw[V.out];exact aM.out⟩
    simp[intOf];omega
   have d3:¬ Z B0:=λh=>by have:=(HZlt.out _ h).2;have:=U.out;omega
   have a2:=aO.out w6 J.out;obtain⟨x0,x1,x2,y0,t0,t1⟩:=cM;have d6:B0<w6.heap.size:=World.block_lt_of_cell? _ _ x0;have d7:B1<w6.heap.size:=World.block_lt_of_cell? _ _ y0;have i3:i+1<=ct:=by omega
   have i5:¬ ct=i:=by omega
   have i4:IntKind.i64.wrap ((i:Int)+1)=((i+1:Nat):Int):=by rw[IntWalk.i64_in _ (by omega)];omega
   have i6:(i:Int)+1<=(ct:Int):=by omega
   have i7:(0:Int)<=(i:Int)+1:=by omega
   clear t0 t1
   go_wp2_with fail
   refine qek (λW=>W.cell? ⟨B0,0,none⟩=some (.int .i64 (n:Int))/\W.cell? ⟨B0,1,none⟩=some (.slice Al s.ls.length cl)/\W.cell? ⟨B0,2,none⟩=some (.slice Ae s.es.length ce)/\W.cell? ⟨B1,0,none⟩=some (.slice (some ⟨b4,ad,none⟩) t.tr.length ct)) (by kernel_rfl) (by rfl) (by kernel_rfl) ⟨x0,x1,x2,y0⟩ (λhHeld=>?_);dsimp only[List.dropLast,List.getLastD,List.getLast?,List.getLast];obtain⟨Wd,am⟩:=nm (w6.drew);have Y:Ext w6 Wd:=am ▸ Below.drew (Ext.refl _);rw[am]at hHeld ⊢;clear am x0 x1 x2 y0
   (refine tk 0 ?_;try simp only[qae])
   (refine tk 1 ?_;try simp only[qae])
   (refine tk 2 ?_;try simp only[qae])
   (refine tk 3 ?_;try simp only[qae])
   (refine tk 4 ?_;try simp only[qae])
   (refine tk 5 ?_;try simp only[qae])
   (refine tk 6 ?_;try simp only[qae])
   (refine tk 7 ?_;try simp only[qae])
   refine wpAnyH_done (by kernel_rfl) ?_ _;show Oper.wp _ _ _ _ _ _;have ay:=J.out.ext Y;have bK:=aO.out Wd ay;have a3:=aP.out Wd (RSy.good.move HX.out bK) [xT] _ (cb.out Wd bK) L0 (aK.out.bt (af.out.bt.trans ay) HG.out) (a8.out.ext qac.good Y) b7.out;have bZ:=Hd ay;have cn:=Hd Y;clear hHeld bK ay Y a2;go_simp;refine a3.mono ?_;rintro e w7 ⟨rfl,a5,ab⟩;have bz:=Hd a5;have bu:=Hd (qe6 (aM.out.ext qac.good cn.out) ab λq h h'=>ae.out q h' h);have db:=Hd ((RSl.good qac.good).move ((RSl.good qac.good).bel cj.out cn.out) (ab.kp λq _ h h'=>by have:=(HZlt.out _ (a9.out q h')).2;have:=U.out;omega));have bp:=Hd (bZ.out.trans (ab.mono λq _ h=>a9.out q h));clear a3 a5 ab
   go_wp2_with fail
   go_roundw
   case rel=>exact⟨i+1,A5,c5,by omega,by go_num,rfl,bp.out,by rw[bh.out];exact db.out,by rw[V.out];exact bz.out,by rw[V.out];exact bu.out⟩
   simp[intOf];omega
  have a4:t.tr[i]? = none:=List.getElem?_eq_none (Nat.le_of_not_lt I);have ac:rTr s n t.tr i L0=L0:=by rw[rTr,a4]
  rw[ac]at V;have D:qau s n (t.tr.take (i+1))=BS:=by rw[<- bX.out,List.take_of_length_le (by omega),List.take_of_length_le (by omega)]
  have dc:=Hd D;have i2:¬ (i:Int)<(t.tr.length:Int):=by omega
  have x2:=T.out.cell 2 _;have xz:=T.out.lt;clear a4 ac D aQ
  go_wp2_with fail
  go_roundw
  case rel=>exact⟨i+1,A,c,by omega,by go_num,rfl,aL.out,by rw[dc.out];exact ck.out,by rw[V.out];exact b8.out,by rw[V.out];exact bv.out⟩
  simp[intOf];omega
 have bJ:i=t.tr.length+1:=by omega
 have dN:=Hd bJ;obtain⟨_,al,ak,ai⟩:=hI.out;have cR:t.tr.take i=t.tr:=List.take_of_length_le (by omega);rw[cR]at al;have aY:rCov s n t c0=⟨if (!(qau s n t.tr).any id)=true then (rUp s n t.tr c0 i).l else rMk s t.mu s.ls.length (rUp s n t.tr c0 i).l,(rUp s n t.tr c0 i).e⟩:=by rw[bJ];rfl
 have au:=(qjy s n t.tr c0 i).1.trans aN.out.1;obtain⟨L0,aj⟩:=nm ((rUp s n t.tr c0 i).l);obtain⟨E0,L⟩:=nm ((rUp s n t.tr c0 i).e);rw[aj]at ak aY au;rw[L]at ai aY;have ao:=none_c (λ_=>True) (qau s n t.tr) _ wr ((RSl.good qac.good).mono al λ_ _ _=>trivial);obtain⟨nb,aI⟩:=nm ((!(qau s n t.tr).any id));rw[aI]at aY ao;have b1:=Hd aY;have bx:=Hd ak;have br:=Hd ai;have c6:=Hd au;have bq:=Hd E;have dK:¬ (i:Int)<=(t.tr.length:Int):=by omega
 have bV:=Hd u;have bW:=Hd r;clear bJ cR aY au aj L aI al ak ai hI E u r dp hi
 go_wp2_with fail
 refine ao.mono ?_;rintro e w6 ⟨rfl,F⟩;clear x0 x1 x2 xz y0 y1 yz ao;have u:=bV.out.ext F;have r:=bW.out.ext F;have x0:=u.cell 0 _;have x1:=u.cell 1 _;have x2:=u.cell 2 _;have xz:=u.lt;have y1:=r.cell 1 _;have yz:=r.lt;have M:=bq.out.ext F;have an:=bx.out.ext qac.good F;have aM:=Hd (br.out.ext qac.good F);have J:Hid (Bt Z w w6):=af.out.bt.trans M;clear u r
 cases nb
 .have a2:=aO.out w6 M;have a3:=aP.out w6 (RSy.good.move HX.out a2) t.mu _ (qaa.good.move c7.out a2) L0 (aK.out.bt J.out HG.out) an c6.out;clear a2 M an F
  go_wp2_with fail
  refine a3.mono ?_;rintro e w7 ⟨rfl,a5,ab⟩;have bz:=Hd a5;have bu:=Hd (qe6 aM.out ab λq h h'=>ae.out q h' h);have bp:=Hd (J.out.trans (ab.mono λq _ h=>a9.out q h));clear a3 a5 ab
  go_wp2_with fail
  go_end0
  refine⟨rfl,?_,by rw[ba.out];exact bp.out⟩;rw[b1.out];exact⟨bz.out,bu.out,ae.out⟩
 have a8:=Hd an;clear M an F
 go_wp2_with fail
 go_end0
 refine⟨rfl,?_,by rw[ba.out];exact J.out⟩;rw[b1.out];exact⟨a8.out,aM.out,ae.out⟩
end
end Go.Proofs.YtegenalcheooeaaGreat
