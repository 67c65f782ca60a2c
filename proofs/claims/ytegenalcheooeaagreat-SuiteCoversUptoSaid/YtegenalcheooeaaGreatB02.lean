/- Of the proof of a law of the suites: LibILb, LibITm, Lts1, Lts2, LibILbs, RFacts. -/
import Derived.Test.YtegenalcheooeaaGreatB01
set_option linter.unusedSectionVars false
set_option linter.unusedSimpArgs false
set_option linter.unusedVariables false
namespace Go.Proofs.YtegenalcheooeaaGreat
open Go.RowKit
attribute [local go_sem] cell?_exto
set_option maxHeartbeats 16000000
set_option maxRecDepth 100000
section
/- slices.IndexFunc and ContainsFunc at each element type of the program: what they come to,whatever function value they are given. -/
theorem idxFLb {σ:Type} (J:σ->World->Prop) (d:σ->Lb->Bool×σ) (S:Nat->Prop) (w:World) (xs:List (Lb)) (v:Value) (N:RSl RLb 2 S w xs [v]) (g:Nat) (lb:Array Value)
  (eg:∀args w,(callFunc g args).run Tryz.prog w = .ok (.enter g args) w) (V:∀s W,J s W->Kp S w W)
  (U:∀x∈xs,∀s cs W,J s W->RLb S W x cs->Calls Tryz.prog g (#[.agg cs.toArray]++lb) W λe w'=>e = .returned (.bool (d s x).1)/\J (d s x).2 w') (F:σ) (h0:J F w) :
  Calls Tryz.prog 105 #[v,.func (.func g) #[] lb] w λe w'=>e = .returned (.int .i64 (qav d F xs).1)/\J (qav d F xs).2 w':=by
 obtain⟨A,c,rfl,hc,aa⟩:=N.val;have HX:=Hd N;have Y:=Hd U;have HJ:=Hd V;clear N U V
 go_enter Tryz.func105,Tryz.ntmps105
 go_wp2
 go_loopw [5,8] (λ_ i wr=>∃k:Nat,k<=xs.length/\i = .int .i64 k/\Hid (∃s,J s wr/\qav d F xs=((qav d s (xs.drop k)).1+(if (qav d s (xs.drop k)).1<0 then 0 else (k:Int)),(qav d s (xs.drop k)).2))) (λ_ i _=>xs.length-(intOf i).toNat)
 case atStart=>exact⟨0,Nat.zero_le _,rfl,F,h0,by simp⟩
 obtain⟨k,hk,rfl,s,hs,hf⟩:=hrel
 by_cases E:k<xs.length
 .obtain ⟨b,M,cs,rfl,hb,hS,X,hr,m⟩:=((RSl.good RLb.good).move HX.out (HJ.out _ _ hs)).get k E;have u:=Y.out xs[k] (List.getElem_mem E) s cs wr hs hr
  obtain⟨G,L,rfl⟩:∃G L,cs=[G,L]:=by
   match cs,X with
   | [G,L],_=>exact⟨G,L,rfl⟩
  have g0:=(by simpa using m.get 0 _:wr.cell? ⟨b,M+k*2,none⟩=some G)
  have g1:=m.get 1 _;rw[List.drop_eq_getElem_cons E,qav]at hf;clear m X hS hr
  cases O:(d s xs[k]).1 with
  | true =>
   rw[O]at u hf;have I:=Hd hf;clear hf
   go_wp2_with fail
   refine u.mono ?_;rintro e w' ⟨rfl,D⟩
   go_wp2_with fail
   go_ret;rw[I.out];exact⟨by simp,D⟩
  | false =>
   rw[O]at u hf;have I:=Hd hf;clear hf
   go_wp2_with fail
   refine u.mono ?_;rintro e w' ⟨rfl,D⟩
   go_wp2_with fail
   go_roundw
   case rel =>
    refine⟨k+1,by omega,by go_num,_,D,?_⟩;rw[I.out];exact qjo _ _
   simp[intOf];omega
 have hd:xs.drop k=[]:=List.drop_of_length_le (by omega);rw[hd,qav]at hf;have I:=Hd hf;clear hf
 go_wp2
 go_ret;rw[I.out];exact⟨by simp,hs⟩
theorem conFLb {σ:Type} (J:σ->World->Prop) (d:σ->Lb->Bool×σ) (S:Nat->Prop) (w:World) (xs:List (Lb)) (v:Value) (D:RSl RLb 2 S w xs [v]) (g:Nat) (lb:Array Value)
  (L:∀args w,(callFunc g args).run Tryz.prog w = .ok (.enter g args) w) (G:∀s W,J s W->Kp S w W)
  (F:∀x∈xs,∀s cs W,J s W->RLb S W x cs->Calls Tryz.prog g (#[.agg cs.toArray]++lb) W λe w'=>e = .returned (.bool (d s x).1)/\J (d s x).2 w') (u:σ) (M:J u w) :
  Calls Tryz.prog 34 #[v,.func (.func g) #[] lb] w λe w'=>e = .returned (.bool (qc9 d u xs).1)/\J (qc9 d u xs).2 w':=by
 obtain⟨A,c,rfl,N,I⟩:=D.val;have m:=idxFLb J d S w xs _ D g lb L G F u M;rw[qje];clear D F G
 go_enter Tryz.func34,Tryz.ntmps34
 go_wp2_with fail
 refine m.mono ?_;rintro e w' ⟨rfl,E⟩
 go_wp2_with fail
 all_goals go_ret
 all_goals exact⟨by simp,E⟩
theorem conPLb (p:Lb->Bool) (S:Nat->Prop) (w:World) (xs:List (Lb)) (v:Value) (d:RSl RLb 2 S w xs [v]) (g:Nat) (lb:Array Value)
  (D:∀args w,(callFunc g args).run Tryz.prog w = .ok (.enter g args) w)
  (A:∀x∈xs,∀cs W,Ext w W->RLb S W x cs->Calls Tryz.prog g (#[.agg cs.toArray]++lb) W λe w'=>e = .returned (.bool (p x))/\Ext W w') :
  Calls Tryz.prog 34 #[v,.func (.func g) #[] lb] w λe w'=>e = .returned (.bool (xs.any p))/\Ext w w' :=
 (conFLb (λ(_:Unit) W=>Ext w W) (λs x=>(p x,s)) S w xs v d g lb D (λ_ _ h=>Ext.kp h) (λx d s cs W u hr=>(A x d cs W u hr).mono λe w' ⟨m,c⟩=>⟨m,u.trans' c⟩) () (Ext.refl w)).mono
  λe w' ⟨m,c⟩=>⟨by rw[m,qkc],c⟩
end
section
/- slices.IndexFunc and ContainsFunc at each element type of the program: what they come to,whatever function value they are given. -/
theorem idxFTm {σ:Type} (J:σ->World->Prop) (d:σ->Tm->Bool×σ) (S:Nat->Prop) (w:World) (xs:List (Tm)) (v:Value) (N:RSl RTm 3 S w xs [v]) (g:Nat) (lb:Array Value)
  (eg:∀args w,(callFunc g args).run Tryz.prog w = .ok (.enter g args) w) (V:∀s W,J s W->Kp S w W)
  (U:∀x∈xs,∀s cs W,J s W->RTm S W x cs->Calls Tryz.prog g (#[.agg cs.toArray]++lb) W λe w'=>e = .returned (.bool (d s x).1)/\J (d s x).2 w') (F:σ) (h0:J F w) :
  Calls Tryz.prog 206 #[v,.func (.func g) #[] lb] w λe w'=>e = .returned (.int .i64 (qav d F xs).1)/\J (qav d F xs).2 w':=by
 obtain⟨A,c,rfl,hc,aa⟩:=N.val;have HX:=Hd N;have Y:=Hd U;have HJ:=Hd V;clear N U V
 go_enter Tryz.func206,Tryz.ntmps206
 go_wp2
 go_loopw [5,8] (λ_ i wr=>∃k:Nat,k<=xs.length/\i = .int .i64 k/\Hid (∃s,J s wr/\qav d F xs=((qav d s (xs.drop k)).1+(if (qav d s (xs.drop k)).1<0 then 0 else (k:Int)),(qav d s (xs.drop k)).2))) (λ_ i _=>xs.length-(intOf i).toNat)
 case atStart=>exact⟨0,Nat.zero_le _,rfl,F,h0,by simp⟩
 obtain⟨k,hk,rfl,s,hs,hf⟩:=hrel
 by_cases E:k<xs.length
 .obtain ⟨b,M,cs,rfl,hb,hS,X,hr,m⟩:=((RSl.good RTm.good).move HX.out (HJ.out _ _ hs)).get k E;have u:=Y.out xs[k] (List.getElem_mem E) s cs wr hs hr
  obtain⟨G,L,c2,rfl⟩:∃G L c2,cs=[G,L,c2]:=by
   match cs,X with
   | [G,L,c2],_=>exact⟨G,L,c2,rfl⟩
  have g0:=(by simpa using m.get 0 _:wr.cell? ⟨b,M+k*3,none⟩=some G)
  have g1:=m.get 1 _;have g2:=m.get 2 _;rw[List.drop_eq_getElem_cons E,qav]at hf;clear m X hS hr
  cases O:(d s xs[k]).1 with
  | true =>
   rw[O]at u hf;have I:=Hd hf;clear hf
   go_wp2_with fail
   refine u.mono ?_;rintro e w' ⟨rfl,D⟩
   go_wp2_with fail
   go_ret;rw[I.out];exact⟨by simp,D⟩
  | false =>
   rw[O]at u hf;have I:=Hd hf;clear hf
   go_wp2_with fail
   refine u.mono ?_;rintro e w' ⟨rfl,D⟩
   go_wp2_with fail
   go_roundw
   case rel =>
    refine⟨k+1,by omega,by go_num,_,D,?_⟩;rw[I.out];exact qjo _ _
   simp[intOf];omega
 have hd:xs.drop k=[]:=List.drop_of_length_le (by omega);rw[hd,qav]at hf;have I:=Hd hf;clear hf
 go_wp2
 go_ret;rw[I.out];exact⟨by simp,hs⟩
theorem conFTm {σ:Type} (J:σ->World->Prop) (d:σ->Tm->Bool×σ) (S:Nat->Prop) (w:World) (xs:List (Tm)) (v:Value) (D:RSl RTm 3 S w xs [v]) (g:Nat) (lb:Array Value)
  (L:∀args w,(callFunc g args).run Tryz.prog w = .ok (.enter g args) w) (G:∀s W,J s W->Kp S w W)
  (F:∀x∈xs,∀s cs W,J s W->RTm S W x cs->Calls Tryz.prog g (#[.agg cs.toArray]++lb) W λe w'=>e = .returned (.bool (d s x).1)/\J (d s x).2 w') (u:σ) (M:J u w) :
  Calls Tryz.prog 137 #[v,.func (.func g) #[] lb] w λe w'=>e = .returned (.bool (qc9 d u xs).1)/\J (qc9 d u xs).2 w':=by
 obtain⟨A,c,rfl,N,I⟩:=D.val;have m:=idxFTm J d S w xs _ D g lb L G F u M;rw[qje];clear D F G
 go_enter Tryz.func137,Tryz.ntmps137
 go_wp2_with fail
 refine m.mono ?_;rintro e w' ⟨rfl,E⟩
 go_wp2_with fail
 all_goals go_ret
 all_goals exact⟨by simp,E⟩
theorem conPTm (p:Tm->Bool) (S:Nat->Prop) (w:World) (xs:List (Tm)) (v:Value) (d:RSl RTm 3 S w xs [v]) (g:Nat) (lb:Array Value)
  (D:∀args w,(callFunc g args).run Tryz.prog w = .ok (.enter g args) w)
  (A:∀x∈xs,∀cs W,Ext w W->RTm S W x cs->Calls Tryz.prog g (#[.agg cs.toArray]++lb) W λe w'=>e = .returned (.bool (p x))/\Ext W w') :
  Calls Tryz.prog 137 #[v,.func (.func g) #[] lb] w λe w'=>e = .returned (.bool (xs.any p))/\Ext w w' :=
 (conFTm (λ(_:Unit) W=>Ext w W) (λs x=>(p x,s)) S w xs v d g lb D (λ_ _ h=>Ext.kp h) (λx d s cs W u hr=>(A x d cs W u hr).mono λe w' ⟨m,c⟩=>⟨m,u.trans' c⟩) () (Ext.refl w)).mono
  λe w' ⟨m,c⟩=>⟨by rw[m,qkc],c⟩
end
section
/- What a label is: sizes of terms,values,lts.CheckLabel. -/
mutual
def qcs:Tm->Int->Int×Int->Int×Int
 | .mk _ _ l,d,s=>qew l d (s.1+1,if s.2<d then d else s.2)
def qew:List Tm->Int->Int×Int->Int×Int
 | [],_,s=>s
 | x :: xs,d,s=>if s.1 > 2000\/s.2 > 200 then s else qew xs d (qcs x (d+1) s)
end
theorem qvu (t:Tm) (d:Int) (s:Int×Int):qcs t d s=qew t.l d (s.1+1,if s.2<d then d else s.2):=by cases t;rw[qcs];rfl
mutual
theorem qve:∀(t:Tm) (d:Int) (s:Int×Int) (m:Int),m<=s.2->m<=(qcs t d s).2
 | .mk _ _ l,d,s,m,h=>by
  rw[qcs];refine qtl l d _ m ?_;simp only[]
  split <;> omega
theorem qtl:∀(l:List Tm) (d:Int) (s:Int×Int) (m:Int),m<=s.2->m<=(qew l d s).2
 | [],d,s,m,h=>by rw[qew];exact h
 | x :: xs,d,s,m,h=>by
  rw[qew]
  split
  .exact h
  exact qtl xs d _ m (qve x _ _ _ h)
end
def qd5 (W:World) (B:Nat) (s:Int×Int):Prop:=W.heap[B]? = some (.cells #[.int .i64 s.1,.int .i64 s.2] 281 (0,0))
def CntC (t:Tm):Prop:=∀(S:Nat->Prop) (B:Nat) (cs:List Value) (d:Int) (s:Int×Int) (W:World),RTm S W t cs->¬ S B->qd5 W B s->0<=s.1->s.1<=2000->0<=s.2->s.2<=200->1<=d->d<=201 ->
  Calls Tryz.prog 264 #[.pointer (some ⟨B,0,none⟩),.agg cs.toArray,.int .i64 d] W λe w'=>e = .returned (.tuple #[])/\qd5 w' B (qcs t d s)/\Bt (· = B) W w'/\0<=(qcs t d s).1/\(qcs t d s).1<=2001/\0<=(qcs t d s).2/\(qcs t d s).2<=201
theorem qd5.cells {W:World} {B:Nat} {s:Int×Int} (h:qd5 W B s):W.cell? ⟨B,0,none⟩=some (.int .i64 s.1)/\W.cell? ⟨B,1,none⟩=some (.int .i64 s.2)/\W.frozen? ⟨B,0,none⟩=false/\W.frozen? ⟨B,1,none⟩=false/\B<W.heap.size:=by
 refine⟨?_,?_,?_,?_,(Array.getElem?_eq_some_iff.1 h).1⟩ <;> simp only[World.cell?,World.frozen?] <;> rw[h] <;> simp
theorem qd5.set0 {W:World} {B:Nat} {s:Int×Int} (h:qd5 W B s) (n:Int):qd5 (W.setCell ⟨B,0,none⟩ (.int .i64 n)) B (n,s.2):=by
 unfold qd5 at *;simp only[World.setCell,Array.getElem?_modify,h]
 simp
theorem qd5.set1 {W:World} {B:Nat} {s:Int×Int} (h:qd5 W B s) (n:Int):qd5 (W.setCell ⟨B,1,none⟩ (.int .i64 n)) B (s.1,n):=by
 unfold qd5 at *;simp only[World.setCell,Array.getElem?_modify,h]
 simp
theorem qd5.ext {W w':World} {B:Nat} {s:Int×Int} (h:qd5 W B s) (c:Ext W w'):qd5 w' B s:=(c.block B h.cells.2.2.2.2).trans h
theorem count_of (t:Tm) (ht:∀x∈t.l,CntC x):CntC t:=by
 intro S B cs d s w hx ab E h1 h2 h3 h4 h5 h6;obtain⟨_,_,v,rfl,Y⟩:=(qa6 ..).1 hx;obtain⟨A,c,rfl,hc,af⟩:=Y.val;obtain⟨m0,m1,f0,f1,hB⟩:=E.cells;have N:qar (λk=>S k/\k≠B) w t.l [.slice A t.l.length c]:=qar.good.mono Y (λb _ hs=>⟨hs,λe=>ab (e ▸ hs)⟩);have HV:=Hd N;clear Y N hx;have HT:=Hd ht;have HM:=Hd E;clear ht E;have G:∀m:Int×Int,∀x∈t.l,m.1<=2000->m.2<=200->True:=λ_ _ _ _ _=>trivial
 clear G
 by_cases hd:s.2<d
 all_goals go_enter Tryz.func264,Tryz.ntmps264
 all_goals go_wp2
 all_goals go_loopw [7,27] (λ_ i wr=>∃k:Nat,k<=t.l.length/\i = .int .i64 k/\Hid (∃m:Int×Int,qd5 wr B m/\Bt (· = B) w wr/\0<=m.1/\m.1<=2001/\d<=m.2/\m.2<=201/\qcs t d s=qew (t.l.drop k) d m)) (λ_ i _=>t.l.length-(intOf i).toNat)
 case atStart =>
  refine⟨0,Nat.zero_le _,rfl,(s.1+1,d),((HM.out.set0 (s.1+1)).set1 d).ext ((Ext.refl _).alloc _),btt,?_⟩;exact⟨by simp only[];omega,by simp only[];omega,by simp only[];omega,by simp only[];omega,by rw[qvu,if_pos hd];rfl⟩
 case atStart =>
  refine⟨0,Nat.zero_le _,rfl,(s.1+1,s.2),((HM.out.set0 (s.1+1)).set1 s.2).ext ((Ext.refl _).alloc _),btt,?_⟩;exact⟨by simp only[];omega,by simp only[];omega,by simp only[];omega,by simp only[];omega,by rw[qvu,if_neg (by omega)];rfl⟩
 all_goals
  obtain⟨k,hk,rfl,m,E,M,U,b2,b3,X,J⟩:=hrel;obtain⟨m0,m1,f0,f1,hB⟩:=E.cells
  by_cases I:k<t.l.length
  .obtain ⟨b,ad,cs,rfl,hb,hS,hl,hr,u⟩:=(qar.good.move HV.out (M.kp λk _ h=>h.2)).get k I;have ae:b≠B:=hS.2;have D:=HT.out t.l[k] (List.getElem_mem I) (λk=>S k/\k≠B) B cs (d+1) m;obtain⟨_,_,v2,rfl,aa⟩:=(qa6 ..).1 hr;obtain⟨A2,c2,rfl,_,_⟩:=aa.val;obtain⟨g0,g1,g2⟩:=g3 u;rw[List.drop_eq_getElem_cons I,qew]at J;have F:=Hd J;clear J u hl hS
   by_cases O:m.1 > 2000\/m.2 > 200
   .rw [if_pos O]at F
    by_cases h0:m.1 > 2000
    .clear D O
     go_wp2
     refine bodyPost_ret (results_none rfl _ _ _) rfl ⟨rfl,?_⟩;rw[F.out];exact⟨E.ext bel,btt,U,b2,by omega,X⟩
    have L:m.2 > 200:=by omega
    clear D O
    go_wp2
    refine bodyPost_ret (results_none rfl _ _ _) rfl ⟨rfl,?_⟩;rw[F.out];exact⟨E.ext bel,btt,U,b2,by omega,X⟩
   rw[if_neg O]at F;have h0:m.1<=2000:=by omega
   have L:m.2<=200:=by omega
   clear O
   go_wp2_with fail
   refine(D _ (RTm.good.bel hr bel) (λh=>h.2 rfl) (E.ext bel) U h0 (by omega) L (by omega) (by omega)).mono ?_;rintro e w1 ⟨rfl,V,ac,q1,q2,q3,q4⟩
   go_wp2_with fail
   go_roundw
   case rel=>exact⟨k+1,by omega,by go_num,_,V,btt,q1,q2,qve _ _ _ _ (by omega),q4,F.out⟩
   simp[intOf];omega
  rw[List.drop_of_length_le (by omega),qew]at J;have F:=Hd J;clear J
  go_wp2
  refine bodyPost_end (results_none rfl _ _ _) rfl ⟨rfl,?_⟩;rw[F.out];exact⟨E,M,U,b2,by omega,X⟩
theorem count_c:∀t,CntC t:=Tm.ind count_of
theorem over_c (B:Nat) (s:Int×Int) (w:World) (c:qd5 w B s):Calls Tryz.prog 265 #[.pointer (some ⟨B,0,none⟩)] w λe w'=>e = .returned (.bool (decide (s.1 > 2000\/s.2 > 200)))/\w'=w:=by
 obtain⟨A,m1,m,d,u⟩:=c.cells;clear c
 by_cases h:s.1 > 2000
 .go_enter Tryz.func265,Tryz.ntmps265
  go_wp2
  go_ret;exact⟨by simp[h],rfl⟩
 go_enter Tryz.func265,Tryz.ntmps265
 go_wp2
 go_ret;exact⟨by simp;omega,rfl⟩
def qih (t:Tm):Int×Int:=if (qcs t 1 (0,0)).1 > 2000\/(qcs t 1 (0,0)).2 > 200 then (2001,201) else qcs t 1 (0,0)
theorem qd5.new (W:World):qd5 (W.alloc (.cells #[.int .i64 0,.int .i64 0] 281)) W.heap.size (0,0):=Array.getElem?_push_size
theorem Size_c (S:Nat->Prop) (t:Tm) (cs:List Value) (w:World) (I:RTm S w t cs) :
  Calls Tryz.prog 227 #[.agg cs.toArray] w λe w'=>e = .returned (.tuple #[.int .i64 (qih t).1,.int .i64 (qih t).2])/\Ext w w':=by
 have u:=I;obtain⟨_,_,v,rfl,L⟩:=(qa6 ..).1 I;obtain⟨A,c,rfl,hc,aa⟩:=L.val;have D:RTm (λk=>k<w.heap.size) w t [.int .i64 t.k,.int .i64 t.n,.slice A t.l.length c]:=RTm.good.mono u (λb X _=>X);have N:=Hd D;have E:=qd5.new (w.alloc (.cells #[.int .i64 t.k,.int .i64 t.n,.slice A t.l.length c] 159));rw[World.size_alloc]at E;have U:=Hd E;clear I u D L E
 go_enter Tryz.func227,Tryz.ntmps227
 go_wp2_with fail
 refine(count_c t (λk=>k<w.heap.size) (w.heap.size+1) _ 1 (0,0) _ (RTm.good.bel N.out bel) (by omega) U.out (by decide) (by decide) (by decide) (by decide) (by decide) (by decide)).mono ?_;rintro e V ⟨rfl,F,J,q1,q2,q3,q4⟩;have O:Ext w V:=Bt.new (((Ext.refl w).alloc _).alloc _) J (by rintro i _ rfl;omega);obtain⟨m0,m1,f0,f1,hB⟩:=F.cells;have M:=Hd F;clear F
 by_cases m:(qcs t 1 (0,0)).1 > 2000\/(qcs t 1 (0,0)).2 > 200
 .have d:=over_c _ _ _ M.out;rw[decide_eq_true m]at d;have G:Hid (qih t=(2001,201)):=if_pos m;clear m
  go_wp2_with fail
  refine d.mono ?_;rintro e Y ⟨rfl,rfl⟩
  go_wp2_with fail
  go_ret2;exact⟨by rw[G.out];rfl,O⟩
 have d:=over_c _ _ _ M.out;rw[decide_eq_false m]at d;have G:Hid (qih t=qcs t 1 (0,0)):=if_neg m;clear m
 go_wp2_with fail
 refine d.mono ?_;rintro e Y ⟨rfl,rfl⟩
 go_wp2_with fail
 go_region
 all_goals go_wp2
 all_goals go_ret2
 all_goals exact⟨by rw[G.out];rfl,bel⟩
end
section
/- What a label is: values,lts.CheckLabel,suite.shown,isSet,isTrace. -/
mutual
def qbn:Tm->Bool
 | .mk k n l=>decide (k=2) && decide (0<=n) && decide (n<256) && decide (l.length<=8) && qd7 l
def qd7:List Tm->Bool
 | []=>true
 | x :: xs=>qbn x && qd7 xs
end
theorem qky:∀l:List Tm,qd7 l = !(l.any λx=>!qbn x)
 | []=>rfl
 | x :: xs=>by rw[qd7,List.any_cons,qky xs];simp
theorem allV_eq (t:Tm):qbn t=(decide (t.k=2) && decide (0<=t.n) && decide (t.n<256) && decide (t.l.length<=8) && !(t.l.any λx=>!qbn x)):=by
 cases t with
 | mk k n l=>rw[qbn,qky];rfl
theorem eg229:∀args w,(callFunc 229 args).run Tryz.prog w = .ok (.enter 229 args) w:=enters_of Tryz.func229 (by kernel_rfl) rfl
def AllC (t:Tm):Prop:=∀(S:Nat->Prop) (B:Nat) (cs:List Value) (W:World),RTm S W t cs->W.cell? ⟨B,0,none⟩=some (.func (.func 228) #[] #[.pointer (some ⟨B,0,none⟩)]) ->
  Calls Tryz.prog 228 #[.agg cs.toArray,.pointer (some ⟨B,0,none⟩)] W λe w'=>e = .returned (.bool (qbn t))/\Ext W w'
theorem all1_of (t:Tm) (u:AllC t) (S:Nat->Prop) (B:Nat) (cs:List Value) (W:World) (d:RTm S W t cs) (E:W.cell? ⟨B,0,none⟩=some (.func (.func 228) #[] #[.pointer (some ⟨B,0,none⟩)])) :
  Calls Tryz.prog 229 #[.agg cs.toArray,.pointer (some ⟨B,0,none⟩)] W λe w'=>e = .returned (.bool (!qbn t))/\Ext W w':=by
 have c:=λW' m A=>u S B cs W' m A
 obtain⟨_,_,v,rfl,G⟩:=(qa6 ..).1 d;have D:=Hd d;clear d;have F:=World.block_lt_of_cell? W _ E
 go_enter Tryz.func229,Tryz.ntmps229
 go_wp2_with fail
 refine(c _ (RTm.good.bel D.out bel) (by go_simp)).mono ?_;rintro e I ⟨rfl,m⟩
 go_wp2_with fail
 go_ret;exact⟨rfl,bel⟩
theorem all_of (t:Tm) (E:∀x∈t.l,AllC x):AllC t:=by
 intro S B cs w m I;have M:=World.block_lt_of_cell? w _ I;obtain⟨_,_,v,rfl,u⟩:=(qa6 ..).1 m
 have d:=λW (G:Ext w W) (D:W.cell? ⟨B,0,none⟩=some (.func (.func 228) #[] #[.pointer (some ⟨B,0,none⟩)]))=>conPTm (λx=>!qbn x) S W t.l v (qar.good.bel u G) 229 #[.pointer (some ⟨B,0,none⟩)] eg229
  (λx m cs W' J hr=>all1_of x (E x m) S B cs W' hr ((J.cell (World.block_lt_of_cell? W _ D)).trans D))
 obtain⟨A,c,rfl,D,L⟩:=u.val;have F:=Hd (allV_eq t);clear E m u
 go_enter Tryz.func228,Tryz.ntmps228
 go_wp2_with fail
 case isTrue =>
  refine(d _ bel (by go_simp)).mono ?_;rintro e O ⟨rfl,N⟩
  go_wp2_with fail
  go_ret;exact⟨by rw[F.out];simp[*];omega,bel⟩
 all_goals go_ret
 all_goals exact⟨by rw[F.out];simp;omega,bel⟩
theorem all_c:∀t,AllC t:=Tm.ind all_of
def isV (t:Tm):Bool:=decide ((qih t).1<=2000) && qbn t
theorem isValue_c (S:Nat->Prop) (t:Tm) (cs:List Value) (w:World) (A:RTm S w t cs) :
  Calls Tryz.prog 163 #[.agg cs.toArray] w λe w'=>e = .returned (.bool (isV t))/\Ext w w':=by
 have d:=λW h=>Size_c S t cs W h
 have c:=λB W m D=>all_c t S B cs W m D
 obtain⟨_,_,v,rfl,G⟩:=(qa6 ..).1 A;have E:=Hd A;clear A G
 go_enter Tryz.func163,Tryz.ntmps163
 go_wp2_with fail
 refine(d _ (RTm.good.bel E.out bel)).mono ?_;rintro e I ⟨rfl,m⟩;have F:=m.cells;have L:w.heap.size<I.heap.size:=by have:=m.size;simp at this;omega
 by_cases hs:(qih t).1<=2000
 .have u:Hid (isV t=qbn t):=by unfold isV;rw[decide_eq_true hs,Bool.true_and];exact rfl
  go_wp2_with fail
  refine(c _ _ (RTm.good.bel E.out bel) (by go_simp)).mono ?_;rintro e J ⟨rfl,D⟩
  go_wp2_with fail
  go_ret;exact⟨by rw[u.out];rfl,bel⟩
 have u:Hid (isV t=false):=by unfold isV;rw[decide_eq_false hs,Bool.false_and];exact rfl
 go_wp2_with fail
 go_ret;exact⟨by rw[u.out];rfl,bel⟩
def qa0 (x:Lb):Bool:=!(decide (x.g < -3) || decide (32<=x.g) || decide (8<x.v.length) || ((decide (x.g = -3) || decide (x.g = -1)) && decide (0<x.v.length)) || x.v.any λt=>!isV t)
theorem eg162:∀args w,(callFunc 162 args).run Tryz.prog w = .ok (.enter 162 args) w:=enters_of Tryz.func162 (by kernel_rfl) rfl
theorem qyz (S:Nat->Prop) (t:Tm) (cs:List Value) (w:World) (d:RTm S w t cs) :
  Calls Tryz.prog 162 #[.agg cs.toArray] w λe w'=>e = .returned (.bool (!isV t))/\Ext w w':=by
 have c:=λW h=>isValue_c S t cs W h
 obtain⟨_,_,v,rfl,u⟩:=(qa6 ..).1 d;have m:=Hd d;clear d u
 go_enter Tryz.func162,Tryz.ntmps162
 go_wp2_with fail
 refine(c _ (RTm.good.bel m.out bel)).mono ?_;rintro e D ⟨rfl,A⟩
 go_wp2_with fail
 go_ret;exact⟨rfl,bel⟩
def qd1 (x:Lb):Int:=if qa0 x then 0 else 170
theorem qo9 (S:Nat->Prop) (x:Lb) (cs:List Value) (w:World) (J:RLb S w x cs) :
  Calls Tryz.prog 96 #[.agg cs.toArray] w λe w'=>e = .returned (.int .i64 (qd1 x))/\Ext w w':=by
 obtain⟨_,v,rfl,F⟩:=J;have d:=λW (u:Ext w W)=>conPTm (λx=>!isV x) S W x.v v (qar.good.bel F u) 162 #[] eg162 (λx J cs W' hW hr=>qyz S x cs W' hr)
 obtain⟨A,c,rfl,hc,Y⟩:=F.val;clear F;obtain⟨g,l⟩:=x;simp only[]at *
 by_cases E:g < -3\/32<=g\/8<l.length
 .have m:=Hd (show qd1 ⟨g,l⟩=170 from by unfold qd1 qa0;rcases E with h | h | h <;> simp[h]);clear d;have X:¬ g < -3->¬ 32<=g->8<(l.length:Int):=by omega
  go_enter Tryz.func96,Tryz.ntmps96
  go_wp2_with fail
  all_goals (try (exfalso;omega))
  all_goals go_ret
  all_goals exact⟨by(first | rw[m.out] | (subst_vars;rw[m.out]));rfl,bel⟩
 have M : -3<=g/\g<32/\(l.length:Int)<=8:=by omega
 obtain⟨M,X,h4⟩:=M;clear E
 by_cases u:g = -3\/g = -1
 .by_cases U:0<l.length
  .have m:=Hd (show qd1 ⟨g,l⟩=170 from by unfold qd1 qa0;rcases u with h | h <;> simp[h,U]);clear d;have N:0<(l.length:Int):=by omega
   rcases u with rfl | rfl
   all_goals go_enter Tryz.func96,Tryz.ntmps96
   all_goals go_wp2_with fail
   all_goals go_ret
   all_goals exact⟨by rw[m.out];rfl,bel⟩
  obtain rfl:l=[]:=List.eq_nil_of_length_eq_zero (by omega);have m:Hid (qd1 ⟨g,[]⟩=0):=by unfold qd1 qa0;rw[if_pos (by simp;omega)];rfl
  rcases u with rfl | rfl
  all_goals go_enter Tryz.func96,Tryz.ntmps96
  all_goals go_wp2_with fail
  all_goals refine(d _ bel).mono ?_
  all_goals rintro e L ⟨rfl,E⟩
  all_goals go_wp2_with fail
  all_goals go_ret
  all_goals exact⟨by rw[m.out];rfl,bel⟩
 have V:(g == -3)=false:=by simp;omega
 have O:(g == -1)=false:=by simp;omega
 have G:¬ g = -3:=by omega
 have I:¬ g = -1:=by omega
 cases D:l.any λt=>!isV t with
 | true =>
  have m:Hid (qd1 ⟨g,l⟩=170):=by unfold qd1 qa0;rw[if_neg (by simp[D])];rfl
  rw[D]at d;clear D u
  go_enter Tryz.func96,Tryz.ntmps96
  go_wp2_with fail
  refine(d _ bel).mono ?_;rintro e L ⟨rfl,E⟩
  go_wp2_with fail
  go_ret;exact⟨by rw[m.out];rfl,bel⟩
 | false =>
  have m:Hid (qd1 ⟨g,l⟩=0):=by unfold qd1 qa0;rw[if_pos (by simp only[D,G,I];simp;omega)];rfl
  rw[D]at d;clear D u
  go_enter Tryz.func96,Tryz.ntmps96
  go_wp2_with fail
  refine(d _ bel).mono ?_;rintro e L ⟨rfl,E⟩
  go_wp2_with fail
  go_ret;exact⟨by rw[m.out];rfl,bel⟩
end
section
/- slices.IndexFunc and ContainsFunc at each element type of the program: what they come to,whatever function value they are given. -/
theorem idxFLbs {σ:Type} (J:σ->World->Prop) (d:σ->List Lb->Bool×σ) (S:Nat->Prop) (w:World) (xs:List (List Lb)) (v:Value) (M:RSl qaa 1 S w xs [v]) (g:Nat) (lb:Array Value)
  (eg:∀args w,(callFunc g args).run Tryz.prog w = .ok (.enter g args) w) (U:∀s W,J s W->Kp S w W)
  (O:∀x∈xs,∀s cs W,J s W->qaa S W x cs->Calls Tryz.prog g (#[cs.headD undef]++lb) W λe w'=>e = .returned (.bool (d s x).1)/\J (d s x).2 w') (F:σ) (Y:J F w) :
  Calls Tryz.prog 95 #[v,.func (.func g) #[] lb] w λe w'=>e = .returned (.int .i64 (qav d F xs).1)/\J (qav d F xs).2 w':=by
 obtain⟨A,c,rfl,hc,aa⟩:=M.val;have HX:=Hd M;have X:=Hd O;have HJ:=Hd U;clear M O U
 go_enter Tryz.func95,Tryz.ntmps95
 go_wp2
 go_loopw [5,8] (λ_ i wr=>∃k:Nat,k<=xs.length/\i = .int .i64 k/\Hid (∃s,J s wr/\qav d F xs=((qav d s (xs.drop k)).1+(if (qav d s (xs.drop k)).1<0 then 0 else (k:Int)),(qav d s (xs.drop k)).2))) (λ_ i _=>xs.length-(intOf i).toNat)
 case atStart=>exact⟨0,Nat.zero_le _,rfl,F,Y,by simp⟩
 obtain⟨k,hk,rfl,s,hs,hf⟩:=hrel
 by_cases E:k<xs.length
 .obtain ⟨b,L,cs,rfl,hb,hS,V,hr,u⟩:=((RSl.good qaa.good).move HX.out (HJ.out _ _ hs)).get k E;have m:=X.out xs[k] (List.getElem_mem E) s cs wr hs hr
  obtain⟨G,rfl⟩:∃G,cs=[G]:=by
   match cs,V with
   | [G],_=>exact⟨G,rfl⟩
  have g0:=(by simpa using u.get 0 _:wr.cell? ⟨b,L+k,none⟩=some G)
  rw[List.drop_eq_getElem_cons E,qav]at hf;clear u V hS hr
  cases N:(d s xs[k]).1 with
  | true =>
   rw[N]at m hf;have I:=Hd hf;clear hf
   go_wp2_with fail
   refine m.mono ?_;rintro e w' ⟨rfl,D⟩
   go_wp2_with fail
   go_ret;rw[I.out];exact⟨by simp,D⟩
  | false =>
   rw[N]at m hf;have I:=Hd hf;clear hf
   go_wp2_with fail
   refine m.mono ?_;rintro e w' ⟨rfl,D⟩
   go_wp2_with fail
   go_roundw
   case rel =>
    refine⟨k+1,by omega,by go_num,_,D,?_⟩;rw[I.out];exact qjo _ _
   simp[intOf];omega
 have hd:xs.drop k=[]:=List.drop_of_length_le (by omega);rw[hd,qav]at hf;have I:=Hd hf;clear hf
 go_wp2
 go_ret;rw[I.out];exact⟨by simp,hs⟩
theorem conFLbs {σ:Type} (J:σ->World->Prop) (d:σ->List Lb->Bool×σ) (S:Nat->Prop) (w:World) (xs:List (List Lb)) (v:Value) (D:RSl qaa 1 S w xs [v]) (g:Nat) (lb:Array Value)
  (L:∀args w,(callFunc g args).run Tryz.prog w = .ok (.enter g args) w) (G:∀s W,J s W->Kp S w W)
  (F:∀x∈xs,∀s cs W,J s W->qaa S W x cs->Calls Tryz.prog g (#[cs.headD undef]++lb) W λe w'=>e = .returned (.bool (d s x).1)/\J (d s x).2 w') (u:σ) (M:J u w) :
  Calls Tryz.prog 25 #[v,.func (.func g) #[] lb] w λe w'=>e = .returned (.bool (qc9 d u xs).1)/\J (qc9 d u xs).2 w':=by
 obtain⟨A,c,rfl,N,I⟩:=D.val;have m:=idxFLbs J d S w xs _ D g lb L G F u M;rw[qje];clear D F G
 go_enter Tryz.func25,Tryz.ntmps25
 go_wp2_with fail
 refine m.mono ?_;rintro e w' ⟨rfl,E⟩
 go_wp2_with fail
 all_goals go_ret
 all_goals exact⟨by simp,E⟩
theorem conPLbs (p:List Lb->Bool) (S:Nat->Prop) (w:World) (xs:List (List Lb)) (v:Value) (d:RSl qaa 1 S w xs [v]) (g:Nat) (lb:Array Value)
  (D:∀args w,(callFunc g args).run Tryz.prog w = .ok (.enter g args) w)
  (A:∀x∈xs,∀cs W,Ext w W->qaa S W x cs->Calls Tryz.prog g (#[cs.headD undef]++lb) W λe w'=>e = .returned (.bool (p x))/\Ext W w') :
  Calls Tryz.prog 25 #[v,.func (.func g) #[] lb] w λe w'=>e = .returned (.bool (xs.any p))/\Ext w w' :=
 (conFLbs (λ(_:Unit) W=>Ext w W) (λs x=>(p x,s)) S w xs v d g lb D (λ_ _ h=>Ext.kp h) (λx d s cs W u hr=>(A x d cs W u hr).mono λe w' ⟨m,c⟩=>⟨m,u.trans' c⟩) () (Ext.refl w)).mono
  λe w' ⟨m,c⟩=>⟨by rw[m,qkc],c⟩
theorem idxPLbs (p:List Lb->Bool) (S:Nat->Prop) (w:World) (xs:List (List Lb)) (v:Value) (d:RSl qaa 1 S w xs [v]) (g:Nat) (lb:Array Value)
  (D:∀args w,(callFunc g args).run Tryz.prog w = .ok (.enter g args) w)
  (A:∀x∈xs,∀cs W,Ext w W->qaa S W x cs->Calls Tryz.prog g (#[cs.headD undef]++lb) W λe w'=>e = .returned (.bool (p x))/\Ext W w') :
  Calls Tryz.prog 95 #[v,.func (.func g) #[] lb] w λe w'=>e = .returned (.int .i64 (qbd p xs))/\Ext w w' :=
 (idxFLbs (λ(_:Unit) W=>Ext w W) (λs x=>(p x,s)) S w xs v d g lb D (λ_ _ h=>Ext.kp h) (λx d s cs W u hr=>(A x d cs W u hr).mono λe w' ⟨m,c⟩=>⟨m,u.trans' c⟩) () (Ext.refl w)).mono
  λe w' ⟨m,c⟩=>⟨by rw[m,qjj],c⟩
end
section

def qcy:List Oper->Nat->(Nat->Value)->Act->Act
 | [],_,_,a=>a
 | o :: l,k,vs,a=>qcy l (k+1) vs (a.put o.dst (vs k))
def qfw:List Oper->Nat->Tmp->Option Nat
 | [],_,_=>none
 | o :: l,k,t=>match qfw l (k+1) t with
  | some j=>some j
  | none=>if o.dst=some t then some k else none
theorem qm3 (a:Act) (d:Option Tmp) (v:Value):(a.put d v).tmps.size=a.tmps.size:=by cases d <;> simp[Act.put]
theorem put_defers (a:Act) (d:Option Tmp) (v:Value):(a.put d v).defers=a.defers:=by cases d <;> rfl
theorem put_at (a:Act) (d:Option Tmp) (v:Value) (t:Nat) (c:t<a.tmps.size):(a.put d v).tmps[t]? = if d=some t then some v else a.tmps[t]?:=by
 cases d with
 | none=>simp[Act.put]
 | some d =>
  by_cases e:d=t
  .subst e;simp[Act.put,c]
  simp[Act.put,Array.getElem?_setIfInBounds_ne e,e]
theorem qi0:∀(l:List Oper) (k:Nat) (c:Nat->Value) (a:Act),(qcy l k c a).tmps.size=a.tmps.size
 | [],_,_,_=>rfl
 | o :: l,k,c,a=>by rw[qcy,qi0 l,qm3]
theorem qm8:∀(l:List Oper) (k:Nat) (c:Nat->Value) (a:Act),(qcy l k c a).defers=a.defers
 | [],_,_,_=>rfl
 | o :: l,k,c,a=>by rw[qcy,qm8 l,put_defers]
theorem qjh:∀(l:List Oper) (k:Nat) (c:Nat->Value) (a:Act) (t:Nat),t<a.tmps.size->(qcy l k c a).tmps[t]? = match qfw l k t with
  | some j=>some (c j)
  | none=>a.tmps[t]?
 | [],_,_,_,_,_=>rfl
 | o :: l,k,c,a,t,ht=>by
  rw[qcy,qjh l (k+1) c _ t (by rw[qm3];exact ht),qfw]
  cases h:qfw l (k+1) t with
  | some j=>rfl
  | none =>
   simp only;rw[put_at _ _ _ _ ht]
   by_cases e:o.dst=some t
   .rw [if_pos e,if_pos e]
   rw[if_neg e,if_neg e]
theorem qnr:∀(l:List Oper) (k t j:Nat),qfw l k t=some j->k<=j/\∃o,l[j-k]? = some o/\o.dst=some t
 | [],_,_,_,h=>by cases h
 | o :: l,k,t,j,h=>by
  rw[qfw]at h
  cases c:qfw l (k+1) t with
  | some i =>
   rw[c]at h;simp only[Option.some.injEq]at h;subst h;obtain⟨A,d,m,u⟩:=qnr l (k+1) t i c;refine⟨by omega,d,?_,u⟩;rw[show i-k=(i-(k+1))+1 from by omega];simpa using m
  | none =>
   rw[c]at h;simp only at h
   split at h
   .rename_i e;injection h with h
    subst h;exact⟨Nat.le_refl _,o,by simp,e⟩
   cases h
theorem act_ext {a b:Act} (h:∀t,t<a.tmps.size->a.tmps[t]? = b.tmps[t]?) (hs:a.tmps.size=b.tmps.size) (c:a.defers=b.defers):a=b:=by
 obtain⟨x,d⟩:=a;obtain⟨y,u⟩:=b;simp only at h hs c;subst c
 congr 1
 apply Array.ext_getElem?
 intro t
 by_cases m:t<x.size
 .exact h t m
 rw[Array.getElem?_eq_none (by omega),Array.getElem?_eq_none (by omega)]
def qjq (o:Oper):List Nat:=(o.after.toList.filter (Region.binds .any)).map (·.on)
def qjd (l:List Oper) (n:Nat):Bool:=(List.range l.length).all λi=>match l[i]? with
 | none=>true
 | some o=>(match o.dst with
  | none=>true
  | some d=>decide (d<n) && qfw l 0 d == some i) && (qjq o).all λj=>decide (j<i)
theorem qm9 {l:List Oper} {n:Nat} (h:qjd l n=true) {i:Nat} {o:Oper} (hi:l[i]? = some o):(∀d,o.dst=some d->d<n/\qfw l 0 d=some i)/\∀e∈o.after,Region.binds .any e=true->e.on<i:=by
 have u:=(List.getElem?_eq_some_iff.1 hi).1;have m:=List.all_eq_true.1 h i (List.mem_range.2 u);rw[hi]at m;simp only[Bool.and_eq_true]at m;refine⟨λd D=>?_,λe E A=>?_⟩
 .have c:=m.1;rw[D]at c;simpa using c
 have c:=List.all_eq_true.1 m.2 e.on (List.mem_map.2 ⟨e,List.mem_filter.2 ⟨by simpa using E,A⟩,rfl⟩);simpa using c
theorem finA_put {l:List Oper} {a:Act} (D:qjd l a.tmps.size=true) {i:Nat} {o:Oper} (hi:l[i]? = some o) (u:Nat->Value) (v:Value):(qcy l 0 u a).put o.dst v=qcy l 0 (λj=>if j=i then v else u j) a:=by
 have hs:=qm9 D hi;refine act_ext (λt c=>?_) (by rw[qm3,qi0,qi0]) (by rw[put_defers,qm8,qm8]);rw[qm3,qi0]at c;rw[put_at _ _ _ _ (by rw[qi0];exact c),qjh _ _ _ _ _ c,qjh _ _ _ _ _ c]
 by_cases e:o.dst=some t
 .rw [if_pos e,(hs.1 t e).2]
  simp
 rw[if_neg e]
 cases A:qfw l 0 t with
 | none=>rfl
 | some j =>
  obtain⟨_,F,d,E⟩:=qnr l 0 t j A
  have m:j≠i:=by
   rintro rfl;rw[Nat.sub_zero,hi]at d;injection d with d
   exact e (d ▸ E)
  simp[m]
theorem finA_self {l:List Oper} {a:Act} (E:qjd l a.tmps.size=true):∃D,a=qcy l 0 D a:=by
 refine⟨λi=>match l[i]? with
  | some o=>(match o.dst with
   | some d=>a.tmps.getD d undef
   | none=>undef)
  | none=>undef,act_ext (λt c=>?_) (by rw[qi0]) (by rw[qm8])⟩
 rw[qjh _ _ _ _ _ c]
 cases u:qfw l 0 t with
 | none=>rfl
 | some j =>
  obtain⟨_,F,m,A⟩:=qnr l 0 t j u;rw[Nat.sub_zero]at m;simp only[m,A];simp[c]
def evF (l:List Oper) (a:Act) (vs:Nat->Value):Operand->Value
 | .tmp t=>match qfw l 0 t with
  | some j=>vs j
  | none=>a.tmps.getD t undef
 | x=>a.eval x
theorem finA_eval {l:List Oper} {a:Act} (A:qjd l a.tmps.size=true) (c:Nat->Value):(qcy l 0 c a).eval=evF l a c:=by
 funext x
 cases x with
 | tmp t =>
  show(qcy l 0 c a).tmps.getD t undef=_;rw[evF]
  by_cases d:t<a.tmps.size
  .have h:=qjh l 0 c a t d;simp only[Array.getD_eq_getD_getElem?,h]
   cases qfw l 0 t <;> rfl
  cases u:qfw l 0 t with
  | none=>simp[qi0,d]
  | some j =>
   obtain⟨_,E,m,D⟩:=qnr l 0 t j u;rw[Nat.sub_zero]at m;exact absurd ((qm9 A m).1 t D).1 d
 | _=>rfl
def vwp (P:Program) (o:Oper) (ev:Operand->Value) (w:World) (R:Value->World->Prop):Prop :=
 match (execOp ev o).run P w with
 | .ok (.value v) w'=>R v w'
 | .ok .skip w'=>R undef w'
 | .ok (.enter f args) w'=>Calls P f args w' λe w''=>∃v,e = .returned v/\R v w''
 | _=>False
theorem vwp_wp {P:Program} {o:Oper} {a:Act} {w:World} {R:Value->World->Prop} {K:Act->World->Prop} {Q:Exit->Act->World->Prop} (h:vwp P o a.eval w R) (c:∀v w',R v w'->K (a.put o.dst v) w'):o.wp P a w K Q:=by
 unfold vwp at h;unfold Oper.wp
 generalize (execOp a.eval o).run P w=r at *
 cases r with
 | ok n w' =>
  cases n <;> simp only at h <;> simp only[Oper.upon]
  case value u=>exact c _ _ h
  case skip=>exact c _ _ h
  case enter f args =>
   refine h.mono ?_;rintro e d ⟨v,rfl,m⟩;exact c _ _ m
 | halt x w'=>simp only at h
def asB:Value->Option Bool
 | .bool b=>some b
 | _=>none
theorem qy7 {l:List Oper} {a:Act} (D:qjd l a.tmps.size=true) (c:Nat->Value) {g:Nat} {o:Oper} {d:Tmp} (u:l[g]? = some o) (A:o.dst=some d):yielded l.toArray (qcy l 0 c a).tmps g=asB (c g):=by
 have h:=(qm9 D u).1 d A;have m:=qjh l 0 c a d h.1;rw[h.2]at m;unfold yielded;simp only[List.getElem?_toArray,u,Option.bind_some,A,m]
 cases c g <;> rfl
def qgw (Fs:List (Value->World->Prop)) (i:Nat) (v:Value) (w:World):Prop:=match Fs[i]? with
 | some f=>f v w
 | none=>True
def StepOK (P:Program) (l:List Oper) (a:Act) (w0:World) (Fs:List (Value->World->Prop)) (i:Nat) (o:Oper):Prop:=∀(vs:Nat->Value) (w:World),Ext w0 w->(∀j∈qjq o,qgw Fs j (vs j) w) ->
 match o.guard with
 | none=>vwp P o (evF l a vs) w λv w'=>Ext w w'/\qgw Fs i v w'
 | some (g,want)=>(∃o' d,l[g]? = some o'/\o'.dst=some d)/\(asB (vs g)=some want->vwp P o (evF l a vs) w λv w'=>Ext w w'/\qgw Fs i v w')/\(asB (vs g)≠some want->qgw Fs i undef w)
def qjt (P:Program) (l:List Oper) (a:Act) (w0:World) (Fs:List (Value->World->Prop)):List Oper->Nat->Prop
 | [],_=>True
 | o :: r,k=>StepOK P l a w0 Fs k o/\qjt P l a w0 Fs r (k+1)
theorem qjt.get {P:Program} {l:List Oper} {a:Act} {d:World} {c:List (Value->World->Prop)}:∀{r:List Oper} {k i:Nat} {o:Oper},qjt P l a d c r k->r[i]? = some o->StepOK P l a d c (k+i) o
 | o :: r,k,0,o',h,hi=>by
  simp at hi;subst hi;exact h.1
 | o :: r,k,i+1,o',h,hi=>by
  have:=qjt.get h.2 (i:=i) (by simpa using hi)
  rwa [show k+1+i=k+(i+1) from by omega]at this
 | [],_,_,_,_,hi=>by simp at hi
theorem qwm:∀(L:List Bool) (i:Nat),L[i]? = some false->(L.set i true).count false+1=L.count false
 | b :: L,0,h=>by
  simp at h;subst h
  simp
 | b :: L,i+1,h=>by
  have:=qwm L i (by simpa using h);rw[List.set_cons_succ,List.count_cons,List.count_cons];omega
 | [],_,h=>by simp at h
theorem qyf {L:List Bool} (h:L.count false=0):∀i,i<L.length->L[i]? = some true:=λi hi=>by
 rw[List.getElem?_eq_getElem hi]
 have:L[i]≠false:=λe=>by
  have:=List.count_eq_zero.1 h;exact this (e ▸ List.getElem_mem hi)
 simpa using this
theorem qux {P:Program} {l:List Oper} {Q:Exit->Act->World->Prop} {M:Act} {w0:World} (I:List (Value->World->Prop)) (V:qjd l M.tmps.size=true) (hF:∀f∈I,∀v A B,f v A->Ext A B->f v B)
  (Y:qjt P l M w0 I l 0) (E:∀u w,Ext w0 w->(∀i,i<l.length->qgw I i (u i) w)->Q .normal (qcy l 0 u M) w):∀(D:Nat) (c:Array Bool) (u:Nat->Value) (w:World),c.size=l.length->c.toList.count false<=D ->
  Ext w0 w->(∀i,c.getD i false=true->qgw I i (u i) w)->wpAny P .any l.toArray Q D c (qcy l 0 u M) w
 | 0,c,u,w,hs,hc,hx,hf=>by
  have aa:=qyf (Nat.le_zero.1 hc)
  have hg:∀i,i<l.length->c.getD i false=true:=λi hi=>by
   have:=aa i (by simpa[hs]using hi);rw[Array.getElem?_toList]at this;simp[this]
  refine⟨?_,E u w hx λi hi=>hf i (hg i hi)⟩
  apply List.eq_nil_iff_forall_not_mem.2
  intro i hi;obtain⟨h1,o,h2,_⟩:=mem_ready.1 hi;have J:i<l.length:=by simpa using (Array.getElem?_eq_some_iff.1 h2).1
  have h3:=hg i J;have G:i<c.size:=by omega
  simp[G]at h1 h3;rw[h1]at h3
  cases h3
 | D+1,c,u,w,hs,hc,hx,hf=>by
  refine⟨λhr=>?_,λi hi=>?_⟩
  .-- nothing may ab up: all have ab up
   have hg:∀i,i<l.length->c.getD i false=true:=λi=>by
    induction i using Nat.strongRecOn with
    | _ i ih =>
    intro hi
    apply Classical.byContradiction
    intro hn;have G:i<c.size:=by omega
    have L:i∈Region.ready .any l.toArray c:=by
     refine mem_ready.2 ⟨?_,l[i],by simp[hi],λe he hb=>?_⟩
     .simp [G]at hn ⊢;exact hn
     have J:=(qm9 V (List.getElem?_eq_getElem hi)).2 e he hb;exact ih e.on J (by omega)
    rw[hr]at L
    cases L
   exact E u w hx λi hi=>hf i (hg i hi)
  obtain⟨h1,o,h2,h3⟩:=mem_ready.1 hi;have N:l[i]? = some o:=by simpa using h2
  have J:i<l.length:=(List.getElem?_eq_some_iff.1 N).1;have G:i<c.size:=by omega
  have ae:c.toList[i]? = some false:=by
   rw[Array.getElem?_toList];simp[G]at h1 ⊢;exact h1
  have m:=Y.get N u w hx λj hj=>by
   obtain⟨e,he,rfl⟩:=List.mem_map.1 hj;obtain⟨he,hb⟩:=List.mem_filter.1 he;exact hf _ (h3 e (by simpa using he) hb)
  rw[Nat.zero_add]at m
  have O:∀v w',Ext w w'->qgw I i v w'->wpAny P .any l.toArray Q D (c.setIfInBounds i true) ((qcy l 0 u M).put o.dst v) w':=λv w' X U=>by
   rw[finA_put V N];refine qux I V hF Y E D _ _ w' (by simpa using hs) ?_ (hx.trans' X) λj hj=>?_
   .have:=qwm c.toList i ae;rw[Array.toList_setIfInBounds];omega
   by_cases e:j=i
   .subst e;simpa using U
   simp only[if_neg e];rw[getD_set_ne false (Ne.symm e)]at hj;have h5:=hf j hj;unfold qgw at h5 ⊢
   cases hq:I[j]? with
   | none=>trivial
   | some f =>
    rw[hq]at h5;exact hF f (List.mem_of_getElem? hq) _ _ _ h5 X
  unfold wpOp;rw[h2];simp only;rw[finA_eval V u |>.symm]at m
  cases F:o.guard with
  | none =>
   rw[F]at m;have hw:Region.wanted o (yielded l.toArray (qcy l 0 u M).tmps)=true:=by simp[Region.wanted,F]
   rw[if_pos hw];exact .inl (vwp_wp m λv w' (h:Ext w w'/\qgw I i v w')=>O v w' h.1 h.2)
  | some gw =>
   obtain⟨g,ac⟩:=gw;rw[F]at m;obtain⟨⟨o',d,ah,ad⟩,ag,af⟩:=m;have hy:=qy7 V u ah ad
   by_cases U:asB (u g)=some ac
   .have hw:Region.wanted o (yielded l.toArray (qcy l 0 u M).tmps)=true:=by simp[Region.wanted,F,hy,U]
    rw[if_pos hw];exact .inl (vwp_wp (ag U) λv w' (h:Ext w w'/\qgw I i v w')=>O v w' h.1 h.2)
   have hw:¬ Region.wanted o (yielded l.toArray (qcy l 0 u M).tmps)=true:=by simp[Region.wanted,F,hy,U]
   rw[if_neg hw];exact O undef w (Ext.refl w) (af U)
theorem qj5 {P:Program} {id:Nat} {l:List Oper} {Q:Exit->Act->World->Prop} {a:Act} {w:World} (m:List (Value->World->Prop)) (G:P.follows .mixedOrders=true) (E:qjd l a.tmps.size=true) (I:∀f∈m,∀v A B,f v A->Ext A B->f v B)
  (u:qjt P l a w.drew m l 0) (d:∀c w',Ext w w'->(∀i,i<l.length->qgw m i (c i) w')->Q .normal (qcy l 0 c a) w'):(Code.region id l.toArray true).wp P Q a w:=by
 refine wp_region_any G ?_;obtain⟨c,D⟩:=finA_self E
 have h:=qux (Q:=Q) m E I u (λc w' F hf=>d c w' (Ext.trans' (Ext.refl w).drew F) hf) l.length (Array.replicate l.length false) c w.drew (by simp) (by simp) (Ext.refl _) (λi hi=>by
  exfalso
  by_cases h:i<l.length
  .simp [h]at hi
  simp[h]at hi)
 rw[<- D]at h;simpa using h
end
end Go.Proofs.YtegenalcheooeaaGreat
