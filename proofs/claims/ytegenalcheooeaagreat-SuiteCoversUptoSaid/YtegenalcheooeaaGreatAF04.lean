/- Of the proof of a law of the suites: LCompL, PMust, RAfter, OpenM. -/
import Derived.Test.YtegenalcheooeaaGreatAF03
import Derived.Test.YtegenalcheooeaaGreatB03
import Derived.Test.YtegenalcheooeaaGreatB07
import Derived.Test.YtegenalcheooeaaGreatB08
import Derived.Test.YtegenalcheooeaaGreatB18
import Derived.Test.YtegenalcheooeaaGreatB19
set_option linter.unusedSectionVars false
set_option linter.unusedSimpArgs false
set_option linter.unusedVariables false
namespace Go.Proofs.YtegenalcheooeaaGreat
open Go.RowKit
attribute [local go_sem] cell?_exto
set_option maxHeartbeats 16000000
set_option maxRecDepth 100000
section
open Go.Shelf
theorem qab.get2 {α:Type} {R:Rdr α} {e:TypeId} {c:Nat} {T:Nat->Prop} {w:World} {xs:List α} {g n q:Nat} (h:qab R 2 e c T w xs (.slice (some ⟨g,0,none⟩) n q)) (i:Nat) (hi:i<xs.length) :
  ∃u v,w.cell? ⟨g,i*2,none⟩=some u/\w.cell? ⟨g,i*2+1,none⟩=some v/\R (λb=>T b/\b≠g) w xs[i] [u,v]/\w.frozen? ⟨g,i*2,none⟩=false/\w.frozen? ⟨g,i*2+1,none⟩=false:=by
 obtain⟨B,f,z⟩:=h
 have hn:n=xs.length:=by
  rcases f.2 with⟨o,_⟩ | ⟨I,y,C,o,_⟩
  .simp at o
  simp at o;exact o.2.1
 subst hn;rw[qgd]at z;obtain⟨r,F,G,A⟩:=z.at i hi
 obtain⟨u,v,rfl⟩:∃u v,r=[u,v]:=by
  match r,F with
  | [u,v],_=>exact⟨u,v,rfl⟩
 have D:=A 0 (by decide);have E:=A 1 (by decide);refine⟨u,v,?_,?_,G,f.frozenAt _,f.frozenAt _⟩
 .rw [f.cellAt _ (by omega)];simpa using D
 rw[f.cellAt _ (by omega)];simpa using E
theorem qab.putLb {e:TypeId} {c:Nat} {T:Nat->Prop} {w:World} {xs:List Lb} {g n o:Nat} (h:qab RLb 2 e c T w xs (.slice (some ⟨g,0,none⟩) n o)) (hn:n=xs.length) (i:Nat) (hi:i<xs.length) (x:Lb) (v:Value) (B:RLb (λb=>T b/\b≠g) w x [.int .i64 x.g,v]) :
  qab RLb 2 e c T ((w.setCell ⟨g,i*2,none⟩ (.int .i64 x.g)).setCell ⟨g,i*2+1,none⟩ v) (xs.set i x) (.slice (some ⟨g,0,none⟩) n o):=by
 subst hn
 have D:=qab.put RLb.good h i 0 (.int .i64 x.g) ⟨x.g,xs[i].v⟩ (by decide) hi λcs f=>by
  obtain⟨_,C,rfl,r⟩:=f;exact⟨B.1,C,rfl,r⟩
 have u:Kp (λb=>T b/\b≠g) w (w.setCell ⟨g,i*2+0,none⟩ (.int .i64 x.g)):=⟨by simp[World.setCell],λq _ E=>Below.heap_setCell w _ _ q E.2⟩
 have z:=RLb.good.move B u;have y:(xs.set i ⟨x.g,xs[i].v⟩).length=xs.length:=List.length_set
 have A:=qab.put (xs:=xs.set i ⟨x.g,xs[i].v⟩) RLb.good (by rw[y];exact D) i 1 v x (by decide) (by rw[y];exact hi) λcs f=>by
  obtain⟨_,C,rfl,r⟩:=f;simp only[List.getElem_set_self]at *;exact z
 rw[List.set_set,y]at A;simpa using A
theorem qqb (w:World) (t e E:TypeId) (z:Value) (k:Nat) (D:Tryz.prog.underlying t=some (.slice e)) (r:∀w,(zeroValue e).run Tryz.prog w = .ok z w) (A:z.cells.size=k) (G:0<k) (C:∀v∈z.cells.toList,v.oneCell'=true) (b o n c:Nat) (hn:0<n)
  (B:∀j,j<n*k->(w.cell? ⟨b,o+j,none⟩).isSome=true/\w.frozen? ⟨b,o+j,none⟩=false) :
  ∃F,(Builtin.clear_ #[t] E #[.slice (some ⟨b,o,none⟩) n c]).run Tryz.prog w = .ok (.tuple #[]) (w.setCells b o F):=by
 have f:(Builtin.zeroCells z.cells n).toList.length=n*k:=by simp[Builtin.zeroCells,A]
 have g:∀v∈(Builtin.zeroCells z.cells n).toList,v.oneCell'=true:=λv r=>by
  simp only[Builtin.zeroCells,Array.toList_map,List.mem_map]at r;obtain⟨i,_,rfl⟩:=r;have y:i % z.cells.size<z.cells.size:=Nat.mod_lt _ (by omega);rw[getElem!_pos z.cells _ y];exact C _ (by simp)
 have q:=run_storeCells_cells (P:=Tryz.prog) b o (Builtin.zeroCells z.cells n).toList 0 w (by rw[f];simpa using λj u=>(B j u).1) (by rw[f];simpa using λj u=>(B j u).2) g;simp only[Nat.add_zero]at q;obtain⟨m,rfl⟩:∃m,n=m+1:=⟨n-1,by omega⟩
 exact⟨(Builtin.zeroCells z.cells (m+1)).toList,by simp[Builtin.clear_,run_underlying D,r,q]⟩
end
section

def Inc (l:List Lb):Prop:=l.Pairwise λa b=>qak a b<0
theorem Inc.of_get {l:List Lb} (h:∀i,(hi:i+1<l.length)->qak l[i] l[i+1]<0):Inc l:=by
 induction l with
 | nil=>exact List.Pairwise.nil
 | cons a r ih =>
  have hr:Inc r:=ih λi hi=>h (i+1) (by simpa using hi)
  refine List.pairwise_cons.2 ⟨λb f=>?_,hr⟩
  cases r with
  | nil=>simp at f
  | cons c r =>
   have g:qak a c<0:=h 0 (by simp)
   rcases List.mem_cons.1 f with rfl | f
   .exact g
   exact qbe.trans _ _ _ g ((List.pairwise_cons.1 hr).1 b f)
theorem Inc.get {l:List Lb} (h:Inc l) {i j:Nat} (c:i<j) (f:j<l.length):qak (l[i]'(by omega)) l[j]<0:=List.pairwise_iff_getElem.1 h i j (by omega) f c
theorem qmj (l:List Lb):qf5 l=true↔Inc l:=⟨λh=>Inc.of_get ((qir l).1 h),λh=>(qir l).2 λi hi=>h.get (Nat.lt_succ_self i) hi⟩
theorem qip (x:Lb):¬ qak x x<0:=by have:=qbe.refl x;omega
theorem ql3 (p:Nat->Bool) (n:Nat) (g:∀a b,a<=b->p b=true->p a=true):∀(f i j:Nat),i<=j->j-i<=f->(∀k,k<i->p k=true)->(∀k,j<=k->p k=false)->(∀k,k<bsI p f i j->p k=true)/\∀k,bsI p f i j<=k->p k=false
 | 0,i,j,hij,hf,h1,h2=>by
  rw[bsI];exact⟨h1,λk c=>h2 k (by omega)⟩
 | f+1,i,j,hij,hf,h1,h2=>by
  rw[bsI]
  split
  .split
   .rename_i o;exact ql3 p n g f _ j (by omega) (by omega) (λk c=>g k _ (by omega) o) h2
   rename_i o;refine ql3 p n g f i _ (by omega) (by omega) h1 λk c=>?_
   cases q:p k
   .rfl
   exact absurd (g _ k c q) o
  exact⟨h1,λk c=>h2 k (by omega)⟩
theorem bsP_mono {l:List Lb} (h:Inc l) (x:Lb) (a b:Nat) (g:a<=b) (c:bsP l x b=true):bsP l x a=true:=by
 by_cases f:b<l.length
 .rw [qii f,decide_eq_true_eq]at c;rw[qii (by omega),decide_eq_true_eq]
  by_cases e:a=b
  .subst e;exact c
  exact qbe.trans _ _ _ (h.get (by omega) f) c
 simp[bsP,List.getElem?_eq_none (Nat.le_of_not_lt f)]at c
theorem qu1 {l:List Lb} (h:Inc l) (x:Lb):(∀k,k<qci l x->bsP l x k=true)/\∀k,qci l x<=k->bsP l x k=false :=
 ql3 _ 0 (bsP_mono h x) l.length 0 l.length (Nat.zero_le _) (by omega) (λk c=>absurd c (by omega)) λk c=>by simp[bsP,List.getElem?_eq_none c]
theorem qo7 {l:List Lb} (h:Inc l) (x:Lb):qdt x l=true↔x∈l:=by
 have hs:=qu1 h x
 constructor
 .intro hi
  by_cases f:qci l x<l.length
  .rw [qdt,qmu f,decide_eq_true_eq]at hi;rw[<- qbe.eq _ _ hi];exact List.getElem_mem f
  rw[qdt,qqr f]at hi
  cases hi
 intro g;obtain⟨i,hi,rfl⟩:=List.mem_iff_getElem.1 g
 have e:qci l l[i]=i:=by
  refine Nat.le_antisymm (Nat.le_of_not_lt λc=>?_) (Nat.le_of_not_lt λc=>?_)
  .have:=hs.1 i c;rw[qii hi,decide_eq_true_eq]at this;exact qip _ this
  have:=hs.2 _ (Nat.le_refl _);rw[qii (by omega),decide_eq_false_iff_not]at this;exact this (h.get c hi)
 rw[qdt,e,qmu hi,decide_eq_true_eq];exact qbe.refl _
theorem qkt {a b:List Lb} (c:Inc b):qe1 a b=true↔∃x∈a,x∈b:=by
 unfold qe1;rw[List.any_eq_true];exact exists_congr λx=>and_congr_right λ_=>qo7 c x
section
variable {α:Type} {cf:α->α->Int} {eq:α->α->Bool}
theorem qvs (f:∀x y,eq x y=true↔x=y):∀(c:List α) (p x:α),(x=p\/x∈qc6 eq p c)↔x∈p :: c
 | [],p,x=>by simp[qc6]
 | y :: c,p,x=>by
  have ih:=qvs f c y x;rw[qc6]
  by_cases h:eq y p=true
  .have e:=(f y p).1 h;subst e;rw[if_pos h,ih]
   simp
  rw[if_neg h,List.mem_cons,ih,List.mem_cons,List.mem_cons,List.mem_cons]
theorem ql8 (c:∀x y,eq x y=true↔x=y) (l:List α) (x:α):x∈qa2 eq l↔x∈l:=by
 cases l with
 | nil=>rw[qa2]
 | cons p ys=>rw[qa2,List.mem_cons,qvs c]
theorem qta (h:qda cf) (o:∀x y,eq x y=true↔x=y):∀(g:List α) (p:α),Srt cf (p :: g)->(p :: qc6 eq p g).Pairwise λa b=>cf a b<0
 | [],p,_=>by rw[qc6];exact List.pairwise_singleton _ _
 | y :: g,p,hs=>by
  have f:=List.pairwise_cons.1 hs;have ih:=qta h o g y f.2;rw[qc6]
  by_cases e:eq y p=true
  .rw [if_pos e];have r:=(o y p).1 e;subst r;exact ih
  rw[if_neg e]
  have c:cf p y<0:=by
   have v:=f.1 y (by simp);have w:cf p y≠0:=λu=>e ((o y p).2 (h.eq p y u).symm)
   omega
  refine List.pairwise_cons.2 ⟨λz q=>?_,ih⟩
  rcases List.mem_cons.1 q with rfl | q
  .exact c
  exact h.trans _ _ _ c ((List.pairwise_cons.1 ih).1 z q)
theorem qja (h:qda cf) (c:∀x y,eq x y=true↔x=y) (l:List α) (hs:Srt cf l):(qa2 eq l).Pairwise λa b=>cf a b<0:=by
 cases l with
 | nil=>exact List.Pairwise.nil
 | cons p ys=>exact qta h c ys p hs
end
theorem qo6 {s:Sy} (h:qah s):Inc s.ls:=Inc.of_get λi hi=>by
 have:=(h.2.2.2.2.1 (i+1) hi).2 (by omega);simpa using this
theorem qpp (p:Int->Bool):∀(i:Nat) (xs:List Lb),(qbp p i xs).Sublist xs
 | _,[]=>List.Sublist.refl _
 | i,x :: xs=>by
  rw[qbp]
  split
  .exact (qpp p (i+1) xs).cons_cons x
  exact(qpp p (i+1) xs).cons x
theorem qr7 (p:Int->Bool) (x:Lb):∀(i:Nat) (xs:List Lb),x∈qbp p i xs↔∃k,∃h:k<xs.length,xs[k]=x/\p ((i+k:Nat):Int)=true
 | i,[]=>by simp[qbp]
 | i,y :: xs=>by
  have ih:=qr7 p x (i+1) xs
  have o:(x∈qbp p (i+1) xs)↔∃k,∃h:k+1<(y :: xs).length,(y :: xs)[k+1]=x/\p ((i+(k+1):Nat):Int)=true:=by
   rw[ih];refine exists_congr λk=>?_
   constructor
   .rintro ⟨h,e,c⟩;exact⟨by simpa using h,by simpa using e,by rw[show i+(k+1)=i+1+k by omega];exact c⟩
   rintro⟨h,e,c⟩;exact⟨by simpa using h,by simpa using e,by rw[show i+1+k=i+(k+1) by omega];exact c⟩
  rw[qbp]
  constructor
  .intro h
   split at h
   .rename_i c
    rcases List.mem_cons.1 h with rfl | h
    .exact ⟨0,by simp,rfl,by simpa using c⟩
    obtain⟨k,f,e,c⟩:=o.1 h;exact⟨k+1,f,e,c⟩
   obtain⟨k,f,e,c⟩:=o.1 h;exact⟨k+1,f,e,c⟩
  rintro⟨k,f,e,c⟩
  cases k with
  | zero =>
   have g:p (i:Int)=true:=by simpa using c
   have q:y=x:=e;rw[if_pos g,q];exact List.mem_cons_self ..
  | succ k =>
   have:=o.2 ⟨k,f,e,c⟩
   split
   .exact List.mem_cons_of_mem _ this
   exact this
theorem qmv (s:Sy) (t:Int) (x:Lb):x∈qbo s t↔∃k,∃h:k<s.ls.length,s.ls[k]=x/\qat x.g=true/\∃o∈qa4 s [t],∃j∈qay s.es o,s.es[j].l=(k:Int):=by
 rw[qbo,qr7];refine exists_congr λk=>exists_congr λh=>?_
 constructor
 .rintro ⟨e,c⟩;rw[Nat.zero_add,qdw,List.any_eq_true]at c;obtain⟨o,f,c⟩:=c;obtain⟨j,r,c⟩:=List.any_eq_true.1 c;rw[qi1,Bool.and_eq_true,decide_eq_true_eq]at c;have q:=c.2;rw[qhb s _ c.1 h]at q;exact⟨e,by rw[<- e];exact q,o,f,j,r,c.1⟩
 rintro⟨e,q,o,f,j,r,u⟩;refine⟨e,?_⟩;rw[Nat.zero_add,qdw,List.any_eq_true];refine⟨o,f,List.any_eq_true.2 ⟨j,r,?_⟩⟩;rw[qi1,Bool.and_eq_true,decide_eq_true_eq,qhb s _ u h,e];exact⟨u,q⟩
end
section
open Go.Shelf
theorem qp9 (s:Sy) (bs:List Bool) (n:Nat) (hn:s.n=(n:Int)):(qdb s bs).length=n:=by
 rw[qdb,qcg,hn,Int.toNat_natCast]
def mvM (s:Sy) (n:Nat) (bs:List Bool) (x:Lb):List Bool:=qdb s (marksOf n (mvL s x bs s.es.length))
def qau (s:Sy) (n:Nat) (tr:List Lb):List Bool:=tr.foldl (mvM s n) (qdb s (bs0 n))
theorem qmb (s:Sy) (n:Nat) (tr:List Lb) (x:Lb):qau s n (tr++[x])=mvM s n (qau s n tr) x:=by simp[qau]
theorem qjx (s:Sy) (n:Nat) (hn:s.n=(n:Int)) (tr:List Lb):(qau s n tr).length=n:=by
 rcases List.eq_nil_or_concat tr with rfl | ⟨l,x,rfl⟩
 .exact qp9 s _ n hn
 rw[List.concat_eq_append,qmb];exact qp9 s _ n hn
end
section
open Go.ChangeShapes Go.WideShapes Go.ChangeAt
section
variable {H:Type} {enc:TypeId×Value->H} {W:World} {sp:Nat->Bool} {held:Bool}
theorem k94:Tryz.prog.cellsOf 94=4:=by kernel_rfl
theorem list4 {α:Type}:∀{l:List α},l.length=4->∃a b c d,l=[a,b,c,d]
 | [a,b,c,d],_=>⟨a,b,c,d,rfl⟩
theorem open_mu (r:Nat) (cs:List Value) (x:DataW H×List MemPlace) (h:DataW.trod enc Tryz.prog W 0 sp held r 94 cs=some x):cs.length=4/\∃a:Mu,RMu (λ_=>True) W a cs/\1<=Rows.uptoBulk x.1:=by
 obtain⟨xs,n,rfl,rfl,A,c,hf⟩:=DataW.trod_struct Tryz.underlying94 h;have u:cs.length=4:=by rw[A,k94]
 obtain⟨f,g,o,q,rfl⟩:=list4 u;obtain⟨Y,y1,y2,y3,rfl⟩:=list4 (show xs.length=4 from c);clear A c u;have v:DataW.trod enc Tryz.prog W 0 sp held n 3 (([f,g,o,q].drop 0).take (Tryz.prog.cellsOf 3))=some Y:=hf 0 _ rfl;rw[k3]at v;have w:DataW.trod enc Tryz.prog W 0 sp held n 3 (([f,g,o,q].drop 1).take (Tryz.prog.cellsOf 3))=some y1:=hf 1 _ rfl;rw[k3]at w;have y:DataW.trod enc Tryz.prog W 0 sp held n 3 (([f,g,o,q].drop 2).take (Tryz.prog.cellsOf 3))=some y2:=hf 2 _ rfl;rw[k3]at y;have z:DataW.trod enc Tryz.prog W 0 sp held n 3 (([f,g,o,q].drop 3).take (Tryz.prog.cellsOf 3))=some y3:=hf 3 _ rfl;rw[k3]at z;obtain⟨B,F,_,T⟩:=DataW.trod_int Tryz.underlying3 v;obtain⟨C,G,_,U⟩:=DataW.trod_int Tryz.underlying3 w;obtain⟨D,I,_,V⟩:=DataW.trod_int Tryz.underlying3 y;obtain⟨E,J,_,X⟩:=DataW.trod_int Tryz.underlying3 z;have L:f = .int .i64 B:=by injection F
 have M:g = .int .i64 C:=by injection G
 have N:o = .int .i64 D:=by injection I
 have O:q = .int .i64 E:=by injection J
 subst L M N O;refine⟨rfl,⟨B,C,D,E⟩,⟨qg0 T,qg0 U,qg0 V,qg0 X,rfl⟩,?_⟩;simp only[Rows.uptoBulk];omega
theorem open_mus (c:Nat) (cs:List Value) (x:DataW H×List MemPlace) (h:DataW.trod enc Tryz.prog W 0 sp held c 96 cs=some x):∃l v,cs=[v]/\RSl RMu 4 (λ_=>True) W l [v]:=by
 obtain⟨l,v,rfl,hr,_⟩:=qh7 (R:=RMu) (k:=4) (by decide) (λ_=>1) Tryz.underlying96 k94 h (λm _ cs y hy=>open_mu m cs y hy);exact⟨l,v,rfl,hr⟩
end
end
end Go.Proofs.YtegenalcheooeaaGreat
