/- Of the proof of a law of the suites: RSys, RFirst, ROut, RListed. -/
import Derived.Test.YtegenalcheooeaaGreatAF01
import Derived.Test.YtegenalcheooeaaGreatB03
import Derived.Test.YtegenalcheooeaaGreatB05
import Derived.Test.YtegenalcheooeaaGreatB10
import Derived.Test.YtegenalcheooeaaGreatB11
import Derived.Test.YtegenalcheooeaaGreatB13
import Derived.Test.YtegenalcheooeaaGreatB14
set_option linter.unusedSectionVars false
set_option linter.unusedSimpArgs false
set_option linter.unusedVariables false
namespace Go.Proofs.YtegenalcheooeaaGreat
open Go.RowKit
attribute [local go_sem] cell?_exto
set_option maxHeartbeats 16000000
set_option maxRecDepth 100000
section
/- The reference's Ahead,Is and Check of a transition system: walked. -/
theorem Ahead_c (S:Nat->Prop) (x y:Ed) (E F:List Value) (w:World) (L:REd S w x E) (hy:REd S w y F) :
  Calls Tryz.prog 223 #[.agg E.toArray,.agg F.toArray] w λe M=>e = .returned (.bool (decide (qbf x y<0)))/\qag w M:=by
 obtain⟨_,_,_,rfl⟩:=L;obtain⟨_,_,_,rfl⟩:=hy;have c:=qk8 x y;obtain⟨v,h⟩:=nm (x.f);rw[h]at c;rw[h];clear h;obtain⟨z,h⟩:=nm (x.l);rw[h]at c;rw[h];clear h;obtain⟨G,h⟩:=nm (x.t);rw[h]at c;rw[h];clear h;obtain⟨A,h⟩:=nm (y.f);rw[h]at c;rw[h];clear h;obtain⟨B,h⟩:=nm (y.l);rw[h]at c;rw[h];clear h;obtain⟨I,h⟩:=nm (y.t);rw[h]at c;rw[h];clear h
 by_cases o:v=A
 rotate_left
 .have J:(v != A)=true:=by simpa using o
  have r:=Hd (show decide (qbf x y<0)=decide (v<A) from by
   by_cases h:v<A
   .rw [decide_eq_true h,decide_eq_true (c.2 (.inl h))]
   rw[decide_eq_false h,decide_eq_false (λu=>by rcases c.1 u with g | ⟨g,_⟩ <;> omega)])
  clear o c
  go_enter Tryz.func223,Tryz.ntmps223
  go_wp2_with fail
  go_ret;exact⟨by rw[r.out];rfl,qan⟩
 have J:(v != A)=false:=by simpa using o
 by_cases g:z=B
 rotate_left
 .have D:(z != B)=true:=by simpa using g
  have r:=Hd (show decide (qbf x y<0)=decide (z<B) from by
   by_cases h:z<B
   .rw [decide_eq_true h,decide_eq_true (c.2 (.inr ⟨o,.inl h⟩))]
   rw[decide_eq_false h,decide_eq_false (λu=>by rcases c.1 u with g | ⟨g,C | ⟨C,_⟩⟩ <;> omega)])
  clear o g c
  go_enter Tryz.func223,Tryz.ntmps223
  go_wp2_with fail
  go_ret;exact⟨by rw[r.out];rfl,qan⟩
 have D:(z != B)=false:=by simpa using g
 have r:=Hd (show decide (qbf x y<0)=decide (G<I) from by
  by_cases h:G<I
  .rw [decide_eq_true h,decide_eq_true (c.2 (.inr ⟨o,.inr ⟨g,h⟩⟩))]
  rw[decide_eq_false h,decide_eq_false (λu=>by rcases c.1 u with g | ⟨g,C | ⟨C,N⟩⟩ <;> omega)])
 clear o g c
 go_enter Tryz.func223,Tryz.ntmps223
 go_wp2_with fail
 go_ret;exact⟨by rw[r.out];rfl,qan⟩
noncomputable def qh5 (s:Sy):Bool:=@decide (qah s) (Classical.propDecidable _)
theorem qhx {s:Sy} (h:¬ qah s):qh5 s=false:=by unfold qh5;exact @decide_eq_false _ (Classical.propDecidable _) h
theorem qwq {s:Sy} (h:qah s):qh5 s=true:=by unfold qh5;exact @decide_eq_true _ (Classical.propDecidable _) h
theorem qiy (s:Sy) (e:Ed):qb8 s e=true↔0<=e.f/\e.f<s.n/\0<=e.t/\e.t<s.n/\0<=e.l/\e.l<s.ls.length:=by
 simp only[qb8,isB,Bool.and_eq_true,decide_eq_true_eq];omega
theorem Is17_c (S:Nat->Prop) (s:Sy) (cs:List Value) (w:World) (hx:RSy S w s cs) :
  Calls Tryz.prog 153 #[.agg cs.toArray] w λe w'=>e = .returned (.bool (qh5 s))/\Ext w w':=by
 obtain⟨_,v,u,rfl,hv,hu⟩:=id hx;obtain⟨A,c,rfl,hc,aG⟩:=hv.val;obtain⟨A',c',rfl,aF,az⟩:=hu.val;have HL:=Hd hv;have HE:=Hd hu;clear hx hv hu;obtain⟨m,Y⟩:=nm (s.n);rw[Y]
 by_cases b1:1<=m
 rotate_left
 .have F:=Hd (qhx (s:=s) (λh=>b1 (Y ▸ h.1)));clear Y
  go_enter Tryz.func153,Tryz.ntmps153
  go_wp2_with fail
  go_ret;exact⟨by rw[F.out];rfl,bel⟩
 by_cases b2:m<=20000
 rotate_left
 .have F:=Hd (qhx (s:=s) (λh=>b2 (Y ▸ h.2.1)));clear Y
  go_enter Tryz.func153,Tryz.ntmps153
  go_wp2_with fail
  go_ret;exact⟨by rw[F.out];rfl,bel⟩
 by_cases b3:s.ls.length<=4000
 rotate_left
 .have F:=Hd (qhx (s:=s) (λh=>b3 h.2.2.1));clear Y
  go_enter Tryz.func153,Tryz.ntmps153
  go_wp2_with fail
  go_ret;exact⟨by rw[F.out];rfl,bel⟩
 by_cases b4:s.es.length<=100000
 rotate_left
 .have F:=Hd (qhx (s:=s) (λh=>b4 h.2.2.2.1));clear Y
  go_enter Tryz.func153,Tryz.ntmps153
  go_wp2_with fail
  go_ret;exact⟨by rw[F.out];rfl,bel⟩
 have aB:(s.ls.length:Int)<=4000:=by omega
 have aC:(s.es.length:Int)<=100000:=by omega
 have HM:=Hd Y;clear Y;obtain⟨W0,V⟩:=nm (w.alloc (.cells #[.int .i64 m,.slice A s.ls.length c,.slice A' s.es.length c'] 25));have ak:Ext w W0:=by rw[<- V];exact(Ext.refl w).alloc _
 have aj:qaf W0 w.heap.size 25 [.int .i64 m,.slice A s.ls.length c,.slice A' s.es.length c']:=by rw[<- V];exact qaf.new w 25 _
 have T:=Hd aj;have C:=Hd ak;obtain⟨p0,ag⟩:=nm (w.heap.size);rw[ag]at T;have an:=Hd ag;have ao:=Hd V;clear ak aj ag V
 go_enter Tryz.func153,Tryz.ntmps153
 go_wp2_with fail
 rw[ao.out,an.out]
 go_loopw [3] (λi wr=>∃k:Nat,k<=s.ls.length/\i = .int .i64 k/\Ext W0 wr/\Hid (∀j,j<k->qlw s.ls j)) (λi _=>s.ls.length-(intOf i).toNat)
 case atStart=>exact⟨0,Nat.zero_le _,rfl,Ext.refl _,λj hj=>absurd hj (by omega)⟩
 obtain⟨k,hk,rfl,E,hz⟩:=hrel;have D:=T.out.ext E;have x1:=D.cell 1 _;have xz:=D.lt;clear D
 by_cases J:k<s.ls.length
 .obtain ⟨b,ay,cs,rfl,hb,hS,hl,hr,z⟩:=(qaa.good.bel HL.out (C.out.trans' E)).get k J;obtain⟨_,v1,rfl,av⟩:=id hr;have U:=z.get 0 _;have g1:=z.get 1 _;simp only[Nat.add_zero]at U;have M:=qp5 S _ _ wr hr;clear z hl hS av
  cases ho:qa0 s.ls[k] with
  | false =>
   have F:=Hd (qhx (s:=s) (λh=>by have:=(h.2.2.2.2.1 k J).1;rw[ho]at this;cases this));rw[ho]at M;clear ho hr
   go_wp2_with fail
   refine M.mono ?_;rintro e w1 ⟨rfl,h1⟩
   go_wp2_with fail
   go_ret;exact⟨by rw[F.out];rfl,(C.out.trans' E).trans' h1⟩
  | true =>
   rw[ho]at M
   rcases k with _ | k
   .have HO:=Hd ho;simp only[Nat.zero_mul,Nat.add_zero]at U g1;clear ho hr
    go_wp2_with fail
    refine M.mono ?_;rintro e w1 ⟨rfl,h1⟩
    go_wp2_with fail
    (refine qap ?_;(repeat (first | go_big_quiet_step ((fail)) | quiet_step ((fail))));refine wpQuiet_nil ?_)
    intro w2 O
    go_wp2_with fail
    go_roundw
    case rel =>
     refine⟨1,by omega,by go_num,(E.trans' h1).trans' O,λj hj h=>?_⟩;obtain rfl:j=0:=by omega
     exact⟨HO.out,λh0=>absurd h0 (by omega)⟩
    simp[intOf];omega
   have ae:k<s.ls.length:=by omega
   have z1:(0:Int)<=(k:Int):=by omega
   have z2:((k:Int)+1)<(s.ls.length:Int):=by omega
   have z4:(k:Int)<(s.ls.length:Int):=by omega
   have z5:(0:Int)<(k:Int)+1:=by omega
   have HO:=Hd ho;clear ho hr
   go_wp2_with fail
   refine M.mono ?_;rintro e w1 ⟨rfl,h1⟩;clear U g1 x1;have D:=T.out.ext (E.trans' h1);have x1:=D.cell 1 _;have aH:=D.lt;clear D;have ac:=qaa.good.bel HL.out (C.out.trans' (E.trans' h1));obtain⟨b',aa,ap,N,ar,ad,af,L,g⟩:=ac.get k ae;injection N with N
   injection N with he1 he2
   subst he1 he2;obtain⟨b',aa,aD,N,_,_,_,ah,I⟩:=ac.get (k+1) J;injection N with N
   injection N with he1 he2
   subst he1 he2;obtain⟨_,v2,rfl,aw⟩:=id L;obtain⟨_,v3,rfl,ax⟩:=id ah;have U:=I.get 0 _;have g1:=I.get 1 _;have ab:=g.get 0 _;have aq:=g.get 1 _;simp only[Nat.add_zero]at U ab;have B:=λW (hW:Ext w1 W)=>qmx S _ _ _ _ W (RLb.good.bel L hW) (RLb.good.bel ah hW)
   clear ac L ah g I af ad aw ax
   by_cases G:qak s.ls[k] s.ls[k+1]<0
   .have HC:=Hd G;have au:decide (0<=qak s.ls[k] s.ls[k+1])=false:=by simp;omega
    clear G
    go_wp2_with fail
    (refine qap ?_;(repeat (first | go_big_quiet_step ((go_at_call 172;exact qaq (B _ (qa7 _ _)))) | quiet_step ((go_at_call 172;exact qaq (B _ (qa7 _ _))))));refine wpQuiet_nil ?_)
    intro w2 O
    go_wp2_with fail
    go_roundw
    case rel =>
     refine⟨k+1+1,by omega,by go_num,(E.trans' h1).trans' O,λj hj h=>?_⟩
     rcases Nat.lt_or_ge j (k+1)with h' | h'
     .exact hz j h' h
     obtain rfl:j=k+1:=by omega
     exact⟨HO.out,λ_=>HC.out⟩
    simp[intOf];omega
   have F:=Hd (qhx (s:=s) (λh=>G ((h.2.2.2.2.1 (k+1) J).2 (by omega))));have au:0<=qak s.ls[k] s.ls[k+1]:=by omega
   clear G
   go_wp2_with fail
   (refine qap ?_;(repeat (first | go_big_quiet_step ((go_at_call 172;exact qaq (B _ (qa7 _ _)))) | quiet_step ((go_at_call 172;exact qaq (B _ (qa7 _ _))))));refine wpQuiet_nil ?_)
   intro w2 O
   go_wp2_with fail
   go_ret;exact⟨by rw[F.out];rfl,(C.out.trans' (E.trans' h1)).trans' O⟩
 have r:∀j,qlw s.ls j:=λj h=>hz j (by omega) h
 have am:=Hd r;clear r hz
 go_wp2_with fail
 obtain⟨w7,ai⟩:∃w7,w7=wr:=⟨_,rfl⟩
 rw[<- ai]at E;rw[<- ai];clear ai xz x1 J hk
 go_loopw [5] (λi wr=>∃k:Nat,k<=s.es.length/\i = .int .i64 k/\Ext W0 wr/\Hid (∀j,j<k->qna s j)) (λi _=>s.es.length-(intOf i).toNat)
 case atStart=>exact⟨0,Nat.zero_le _,rfl,E,λj hj=>absurd hj (by omega)⟩
 clear E;obtain⟨k,hk,rfl,E,hz⟩:=hrel;have D:=T.out.ext E;have x0:=D.cell 0 _;have x1:=D.cell 1 _;have x2:=D.cell 2 _;have xz:=D.lt;clear D;have X:∀(o:Obj) (y:World),Ext wr (qam (wr.alloc o) y):=λo y=>((Ext.refl wr).alloc o).trans' (qa7 _ y)
 by_cases J:k<s.es.length
 .obtain ⟨b,ay,cs,rfl,hb,hS,hl,hr,z⟩:=(qa3.good.bel HE.out (C.out.trans' E)).get k J;obtain⟨_,_,_,rfl⟩:=id hr;have U:=z.get 0 _;have g1:=z.get 1 _;have g2:=z.get 2 _;simp only[Nat.add_zero]at U;clear z hl hS
  by_cases r:qb8 s s.es[k]=true
  rotate_left
  .have F:=Hd (qhx (s:=s) (λh=>r (h.2.2.2.2.2 k J).1));rw[qiy,HM.out]at r;obtain⟨q1,hq⟩:=nm (s.es[k].f);rw[hq]at r U;clear hq;obtain⟨q2,hq⟩:=nm (s.es[k].l);rw[hq]at r g1;clear hq;obtain⟨q3,hq⟩:=nm (s.es[k].t);rw[hq]at r g2;clear hq;clear hr;have aA:∀b':Bool,b'=false->(Ending.returned (.bool b')) = .returned (.bool (qh5 s)):=λb' h=>by rw[F.out,h]
   by_cases c1:0<=q1
   rotate_left
   .clear r
    go_wp2_with fail
    go_ret;exact⟨by rw[F.out];rfl,(C.out.trans' E).trans' bel⟩
   by_cases c2:q1<m
   rotate_left
   .clear r
    go_wp2_with fail
    go_ret;exact⟨by rw[F.out];rfl,(C.out.trans' E).trans' bel⟩
   by_cases c3:0<=q3
   rotate_left
   .clear r
    go_wp2_with fail
    go_ret;exact⟨by rw[F.out];rfl,(C.out.trans' E).trans' bel⟩
   by_cases c4:q3<m
   rotate_left
   .clear r
    go_wp2_with fail
    go_ret;exact⟨by rw[F.out];rfl,(C.out.trans' E).trans' bel⟩
   by_cases c5:0<=q2
   rotate_left
   .clear r
    go_wp2_with fail
    go_ret;exact⟨by rw[F.out];rfl,(C.out.trans' E).trans' bel⟩
   have c6:¬ q2<s.ls.length:=λh=>r ⟨c1,c2,c3,c4,c5,h⟩
   clear r
   go_wp2_with fail
   go_ret;exact⟨by rw[F.out];rfl,(C.out.trans' E).trans' bel⟩
  have HO:=Hd r;rw[qiy,HM.out]at r;obtain⟨c1,c2,c3,c4,c5,c6⟩:=r
  rcases k with _ | k
  .simp only[Nat.zero_mul,Nat.add_zero]at U g1 g2;clear hr
   go_wp2_with fail
   (refine qap ?_;(repeat (first | go_big_quiet_step ((fail)) | quiet_step ((fail))));refine wpQuiet_nil ?_)
   intro w1 al
   go_wp2_with fail
   go_roundw
   case rel =>
    refine⟨1,by omega,by go_num,E.trans' bel,λj hj h=>?_⟩;obtain rfl:j=0:=by omega
    exact⟨HO.out,λh0=>absurd h0 (by omega)⟩
   simp[intOf];omega
  have ae:k<s.es.length:=by omega
  obtain⟨b',aa,ap,N,ar,ad,af,L,g⟩:=(qa3.good.bel HE.out (C.out.trans' E)).get k ae;injection N with N
  injection N with he1 he2
  subst he1 he2;obtain⟨_,_,_,rfl⟩:=id L;have ab:=g.get 0 _;have aq:=g.get 1 _;have aE:=g.get 2 _;simp only[Nat.add_zero]at ab;have B:=λW (hW:Ext wr W)=>Ahead_c S _ _ _ _ W (REd.good.bel L hW) (REd.good.bel hr hW)
  have z1:(0:Int)<=(k:Int):=by omega
  have z2:((k:Int)+1)<(s.es.length:Int):=by omega
  have z4:(k:Int)<(s.es.length:Int):=by omega
  have z5:(0:Int)<(k:Int)+1:=by omega
  clear hr L g af ad
  by_cases G:qbf s.es[k] s.es[k+1]<0
  .have HC:=Hd G;rw[decide_eq_true G]at B;clear G
   go_wp2_with fail
   (refine qap ?_;(repeat (first | go_big_quiet_step ((go_at_call 223;exact qaq (B _ (X _ _)))) | quiet_step ((go_at_call 223;exact qaq (B _ (X _ _))))));refine wpQuiet_nil ?_)
   intro w1 al
   go_wp2_with fail
   go_roundw
   case rel =>
    refine⟨k+1+1,by omega,by go_num,E.trans' bel,λj hj h=>?_⟩
    rcases Nat.lt_or_ge j (k+1)with h' | h'
    .exact hz j h' h
    obtain rfl:j=k+1:=by omega
    exact⟨HO.out,λ_=>HC.out⟩
   simp[intOf];omega
  have F:=Hd (qhx (s:=s) (λh=>G ((h.2.2.2.2.2 (k+1) J).2 (by omega))));rw[decide_eq_false G]at B;clear G
  go_wp2_with fail
  (refine qap ?_;(repeat (first | go_big_quiet_step ((go_at_call 223;exact qaq (B _ (X _ _)))) | quiet_step ((go_at_call 223;exact qaq (B _ (X _ _))))));refine wpQuiet_nil ?_)
  intro w1 al
  go_wp2_with fail
  go_ret;exact⟨by rw[F.out];rfl,(C.out.trans' E).trans' bel⟩
 have F:=Hd (qwq (s:=s) ⟨by rw[HM.out];exact b1,by rw[HM.out];exact b2,b3,b4,am.out,λj h=>hz j (by omega) h⟩);clear hz
 go_wp2_with fail
 go_ret;exact⟨by rw[F.out];rfl,C.out.trans' E⟩
theorem qzl (s:Sy):ckSy s=if qh5 s=true then 0 else 8:=by
 by_cases h:qah s
 .rw [qhg h,qwq h];rfl
 rw[qe0 h,qhx h];rfl
theorem qit (S:Nat->Prop) (s:Sy) (cs:List Value) (w:World) (q:RSy S w s cs) :
  Calls Tryz.prog 83 #[.agg cs.toArray] w λe D=>e = .returned (.int .i64 (ckSy s))/\Ext w D:=by
 have f:=λW (g:Ext w W)=>Is17_c S s cs W (RSy.good.bel q g)
 obtain⟨_,v,u,rfl,z,y⟩:=id q;obtain⟨A,c,rfl,I,C⟩:=z.val;obtain⟨E,F,rfl,B,r⟩:=y.val;clear q z y;have o:=Hd (qzl s)
 cases g:qh5 s
 all_goals
  rw[g]at f o;simp only[if_true,Bool.false_eq_true,if_false]at o;clear g
  go_enter Tryz.func83,Tryz.ntmps83
  go_wp2_with fail
  refine(f _ bel).mono ?_;rintro e J ⟨rfl,G⟩
  go_wp2_with fail
  go_ret;exact⟨by rw[o.out];rfl,bel⟩
end
section

def qh1 (es:List Ed) (n:Int) (h:Nat):Bool:=match es[h]? with | some e=>decide (e.f<n) | none=>false
theorem qht {c:List Ed} {n:Int} {h:Nat} (g:h<c.length):qh1 c n h=decide (c[h].f<n):=by simp[qh1,List.getElem?_eq_getElem g]
def qb3 (es:List Ed) (n:Int):Nat:=bsI (qh1 es n) es.length 0 es.length
theorem qnj (c:List Ed) (n:Int):qb3 c n<=c.length:=(qlf _ _ 0 c.length (Nat.zero_le _)).2
theorem first_c (S:Nat->Prop) (s:Sy) (cs:List Value) (n:Int) (w:World) (hx:RSy S w s cs) (hn:s.es.length<=4611686018427387903) :
  Calls Tryz.prog 263 #[.agg cs.toArray,.int .i64 n] w λe w'=>e = .returned (.int .i64 (qb3 s.es n:Nat))/\Ext w w':=by
 obtain⟨_,v,u,rfl,hv,X⟩:=id hx;obtain⟨A,c,rfl,hc,ac⟩:=hv.val;obtain⟨A',c',rfl,ab,aa⟩:=X.val;have HE:=Hd X;clear hx hv X;obtain⟨m,N⟩:=nm (s.n);rw[N];clear N;obtain⟨G,z⟩:=nm (w.alloc (.cells #[.int .i64 m,.slice A s.ls.length c,.slice A' s.es.length c'] 25));have J:Ext w G:=by rw[<- z];exact(Ext.refl w).alloc _
 have y:qaf G w.heap.size 25 [.int .i64 m,.slice A s.ls.length c,.slice A' s.es.length c']:=by rw[<- z];exact qaf.new w 25 _
 have x2:=y.cell 2 _;have xz:=y.lt;have E:=Hd y;have F:=Hd J;obtain⟨p0,D⟩:=nm (w.heap.size);rw[D]at E x2 xz;have U:=Hd D;have V:=Hd z;clear J y D z
 go_enter Tryz.func263,Tryz.ntmps263
 go_wp2_with fail
 rw[V.out,U.out]
 go_wp2_with fail
 go_loopw [5,6] (λY vj wr=>∃i j:Nat,i<=j/\j<=s.es.length/\Y = .int .i64 i/\vj = .int .i64 j/\Ext G wr/\Hid (qb3 s.es n=bsI (qh1 s.es n) (j-i) i j)) (λY vj _=>((intOf vj)-(intOf Y)).toNat)
 case atStart=>exact⟨0,s.es.length,Nat.zero_le _,Nat.le_refl _,rfl,rfl,Ext.refl _,rfl⟩
 clear x2 xz;obtain⟨i,j,ad,hj,rfl,rfl,I,B⟩:=hrel;have C:=E.out.ext I;have x2:=C.cell 2 _;have xz:=C.lt;clear C
 by_cases M:i<j
 .have r:=qqv (qh1 s.es n) i j M;obtain⟨h,hh⟩:=nm ((i+j) / 2);have y1:((i:Int)+(j:Int)) / 2=(h:Int):=by omega
  have y3:((i:Int)+(j:Int)).tdiv 2=(h:Int):=by rw[Int.tdiv_eq_ediv_of_nonneg (by omega)];exact y1
  have N:h<s.es.length:=by omega
  have ae:i<=h:=by omega
  have af:h<j:=by omega
  rw[hh]at r;clear hh;obtain⟨b,ag,cs,rfl,hb,hS,hl,hr,g⟩:=(qa3.good.bel HE.out (F.out.trans' I)).get h N;obtain⟨_,_,_,rfl⟩:=id hr;have g0:=g.get 0 _;simp only[Nat.add_zero]at g0;have z1:(0:Int)<=(h:Int):=by omega
  have z2:(h:Int)<(s.es.length:Int):=by omega
  have O:=Hd r;have o:=qht (n:=n) N;obtain⟨q1,hq⟩:=nm (s.es[h].f);rw[hq]at o g0;clear g hl hS hr r hq
  by_cases L:q1<n
  .have T:=Hd (o.trans (decide_eq_true L));clear o
   go_wp2_with fail
   go_roundw
   case rel =>
    refine⟨h+1,j,by omega,hj,by go_num,rfl,I,?_⟩;rw[B.out,O.out,if_pos T.out];exact rfl
   simp[intOf];omega
  have T:=Hd (o.trans (decide_eq_false L));clear o
  go_wp2_with fail
  go_roundw
  case rel =>
   refine⟨i,h,by omega,by omega,rfl,rfl,I,?_⟩;rw[B.out,O.out,if_neg (by rw[T.out];decide)];exact rfl
  simp[intOf];omega
 obtain rfl:i=j:=by omega
 have HI:=Hd (show qb3 s.es n=i by rw[B.out,show i-i=0 from by omega,bsI]);clear M B
 go_wp2_with fail
 go_ret;exact⟨by rw[HI.out];rfl,F.out.trans' I⟩
theorem qqh (p:Nat->Bool) (n:Nat) (o:∀a b,a<=b->p b=true->p a=true):∀(f i j:Nat),i<=j->j-i<=f->(∀k,k<i->p k=true)->(∀k,j<=k->p k=false)->(∀k,k<bsI p f i j->p k=true)/\(∀k,bsI p f i j<=k->p k=false)
 | 0,i,j,h,hf,h1,h2=>by
  rw[bsI];exact⟨h1,λk g=>h2 k (by omega)⟩
 | f+1,i,j,h,hf,h1,h2=>by
  rw[bsI]
  by_cases c:i<j
  .rw [if_pos c]
   by_cases q:p ((i+j) / 2)=true
   .rw [if_pos q];exact qqh p n o f _ j (by omega) (by omega) (λk g=>o k _ (by omega) q) h2
   rw[if_neg q];refine qqh p n o f i _ (by omega) (by omega) h1 λk g=>?_
   cases r:p k with
   | false=>rfl
   | true=>exact absurd (o _ k g r) q
  rw[if_neg c];exact⟨h1,λk g=>h2 k (by omega)⟩
def qh8 (es:List Ed):Prop:=∀i j,(hij:i<=j)->(hj:j<es.length)->(es[i]'(by omega)).f<=es[j].f
theorem qzg {s:Sy} (h:∀j,qna s j):qh8 s.es:=by
 intro i j o
 induction j with
 | zero =>
  intro f;obtain rfl:i=0:=by omega
  exact Int.le_refl _
 | succ j ih =>
  intro f
  rcases Nat.lt_or_ge i (j+1)with g | g
  .have q:=ih (by omega) (by omega);have c:=(qk8 _ _).1 ((h (j+1) f).2 (by omega));simp only[Nat.add_sub_cancel]at c
   rcases c with c | ⟨c,_⟩ <;> omega
  obtain rfl:i=j+1:=by omega
  exact Int.le_refl _
theorem qly {c:List Ed} (hs:qh8 c) (n:Int):(∀k,k<qb3 c n->qh1 c n k=true)/\(∀k,qb3 c n<=k->qh1 c n k=false):=by
 refine qqh _ 0 (λa b f q=>?_) c.length 0 c.length (Nat.zero_le _) (by omega) (λk g=>absurd g (by omega)) λk g=>by simp[qh1,List.getElem?_eq_none g]
 by_cases o:b<c.length
 .rw [qht o,decide_eq_true_eq]at q;rw[qht (by omega),decide_eq_true_eq];have:=hs a b f o;omega
 simp[qh1,List.getElem?_eq_none (Nat.le_of_not_lt o)]at q
theorem qwx {c:List Ed} (hs:qh8 c) (n:Int):qb3 c n<=qb3 c (n+1):=by
 refine Nat.le_of_not_lt λh=>?_
 have g:=(qly hs n).1 _ h;have o:=(qly hs (n+1)).2 _ (Nat.le_refl _);have f:qb3 c (n+1)<c.length:=Nat.lt_of_lt_of_le h (qnj c n);rw[qht f,decide_eq_true_eq]at g;rw[qht f,decide_eq_false_iff_not]at o;omega
def qd9 (es:List Ed) (n:Int):List Ed:=(es.drop (qb3 es n)).take (qb3 es (n+1)-qb3 es n)
theorem qrn {c:List Ed} (hs:qh8 c) (n:Int):(qd9 c n).length=qb3 c (n+1)-qb3 c n:=by
 have:=qnj c (n+1);rw[qd9,List.length_take,List.length_drop];omega
theorem qqu {c:List Ed} (hs:qh8 c) (n:Int):qd9 c n=c.filter λe=>decide (e.f=n):=by
 have q:=qly hs n;have o:=qly hs (n+1);have C:=qwx hs n;have B:=qnj c (n+1)
 have u:c=c.take (qb3 c n)++(qd9 c n++c.drop (qb3 c (n+1))):=by
  have:c.drop (qb3 c n)=qd9 c n++c.drop (qb3 c (n+1)):=by
   rw[qd9]
   conv=>lhs;rw[<- List.take_append_drop (qb3 c (n+1)-qb3 c n) (c.drop (qb3 c n))]
   rw[List.drop_drop,Nat.add_sub_cancel' C]
  rw[<- this,List.take_append_drop]
 have y:(c.take (qb3 c n)).filter (λe=>decide (e.f=n))=[]:=by
  rw[List.filter_eq_nil_iff];intro e g;obtain⟨i,hi,rfl⟩:=List.getElem_of_mem g;rw[List.length_take]at hi;have:=q.1 i (by omega);rw[qht (by omega),decide_eq_true_eq]at this;rw[List.getElem_take]
  simp
  omega
 have z:(qd9 c n).filter (λe=>decide (e.f=n))=qd9 c n:=by
  rw[List.filter_eq_self];intro e g;obtain⟨i,hi,rfl⟩:=List.getElem_of_mem g;have r:=hi;rw[qrn hs]at r;have v:=q.2 (qb3 c n+i) (by omega);have w:=o.1 (qb3 c n+i) (by omega);rw[qht (by omega),decide_eq_false_iff_not]at v;rw[qht (by omega),decide_eq_true_eq]at w;simp only[qd9,List.getElem_take,List.getElem_drop]
  simp
  omega
 have A:(c.drop (qb3 c (n+1))).filter (λe=>decide (e.f=n))=[]:=by
  rw[List.filter_eq_nil_iff];intro e g;obtain⟨i,hi,rfl⟩:=List.getElem_of_mem g;rw[List.length_drop]at hi;have:=o.2 (qb3 c (n+1)+i) (by omega);rw[qht (by omega),decide_eq_false_iff_not]at this;rw[List.getElem_drop]
  simp
  omega
 conv=>rhs;rw[u]
 rw[List.filter_append,List.filter_append,y,z,A,List.nil_append,List.append_nil]
theorem qu7 {c:List Ed} (hs:qh8 c) (n:Int):qd9 c n=(qay c n).map λi=>c[i]:=by
 rw[qqu hs,qay]
 have:c=(List.finRange c.length).map λi=>c[i]:=by
  apply List.ext_getElem
  .simp
  intro i f g;simp
 conv=>lhs;rw[this]
 rw[List.filter_map];rfl
theorem RSl.mid {α:Type} {R:Rdr α} {k:Nat} {S:Nat->Prop} {W:World} {xs:List α} {b f n c:Nat} (h:RSl R k S W xs [.slice (some ⟨b,f,none⟩) n c]) (i m:Nat) (C:i+m<=xs.length) (F:0<m) :
  RSl R k S W ((xs.drop i).take m) [.slice (some ⟨b,f+i*k,none⟩) m m]:=by
 obtain⟨A,E,e,G,I,v⟩:=h;injection e with e
 injection e with e1 e2 e3
 subst e1 e2 e3;have g:((xs.drop i).take m).length=m:=by rw[List.length_take,List.length_drop];omega
 refine⟨_,m,by rw[g],by rw[g];omega,by omega,.inr ?_⟩
 rcases v with rfl | ⟨D,o,e,w,y,z⟩
 .simp at C;omega
 injection e with e
 injection e with e1 e2
 subst e1 e2;refine⟨b,f+i*k,rfl,w,y,qc2.of_get λj B=>?_⟩;rw[g]at B;obtain⟨cs,q,r,u⟩:=z.get (i+j) (by omega);refine⟨cs,q,by rw[List.getElem_take,List.getElem_drop];exact r,?_⟩;rw[Nat.add_assoc,<- Nat.add_mul];exact u
end
section

def OutPost (S:Nat->Prop) (l:List Ed) (w:World) (e:Ending) (w':World):Prop:=∃A1 c1,e = .returned (.slice A1 l.length c1)/\RSl REd 3 S w' l [.slice A1 l.length c1]/\Ext w w'
theorem OutOf_c (S:Nat->Prop) (s:Sy) (hs:qh8 s.es) (cs:List Value) (n:Int) (w:World) (M:RSy S w s cs) (hn:s.es.length<=100000) (ah : -1<=n) (ai:n<=1000000) :
  Calls Tryz.prog 226 #[.agg cs.toArray,.int .i64 n] w (OutPost S (qd9 s.es n) w):=by
 have r:=λW (L:Ext w W)=>first_c S s cs n W (RSy.good.bel M L) (by omega)
 have y:=λW (L:Ext w W)=>first_c S s cs (n+1) W (RSy.good.bel M L) (by omega)
 have f:=qrn hs n;have G:=qwx hs n;have V:=qnj s.es (n+1);have J:Hid (qd9 s.es n=(s.es.drop (qb3 s.es n)).take (qb3 s.es (n+1)-qb3 s.es n)):=rfl;obtain⟨o,E⟩:=nm (qb3 s.es n);obtain⟨hi,D⟩:=nm (qb3 s.es (n+1));rw[E]at r f G J;rw[D]at y f G V J;obtain⟨_,v,u,rfl,hv,hu⟩:=id M;obtain⟨A,c,rfl,hc,ad⟩:=hv.val;obtain⟨A',c',rfl,ac,ab⟩:=hu.val;have HE:=Hd hu;obtain⟨m,X⟩:=nm (s.n);rw[X]at r y;rw[X];obtain⟨N,g⟩:=nm (qd9 s.es n);rw[g]at f J;rw[g];clear M hv hu X g E D;have u1:IntKind.i64.wrap (n+1)=n+1:=IntWalk.i64_in _ (by omega);have af:hi<=c':=by omega
 rcases Nat.lt_or_ge o hi with ag | ae
 .have F:o<s.es.length:=by omega
  obtain⟨b,aa,cs,rfl,L,hS,hl,hr,z⟩:=HE.out.get o F;have aj:¬ hi=o:=by omega
  clear hS hl hr z
  go_enter Tryz.func226,Tryz.ntmps226
  go_wp2_with fail
  refine(r _ bel).mono ?_;rintro e I ⟨rfl,B⟩;have U:=B.cells;have Y:w.heap.size<I.heap.size:=by have:=B.size;simp at this;omega
  have T:Ext w I:=bel
  go_wp2_with fail
  refine(y _ bel).mono ?_;rintro e w2 ⟨rfl,O⟩;have C:=O.cells;have q:Ext w w2:=bel
  go_wp2_with fail
  go_ret;refine⟨some ⟨b,aa+o*3,none⟩,hi-o,?_,?_,q⟩
  .rw [f];rfl
  rw[f,J.out];exact RSl.mid (qa3.good.bel HE.out q) o (hi-o) (by omega) (by omega)
 obtain rfl:o=hi:=by omega
 have g:N=[]:=List.eq_nil_of_length_eq_zero (by omega)
 go_enter Tryz.func226,Tryz.ntmps226
 go_wp2_with fail
 refine(r _ bel).mono ?_;rintro e I ⟨rfl,B⟩;have U:=B.cells;have Y:w.heap.size<I.heap.size:=by have:=B.size;simp at this;omega
 have T:Ext w I:=bel
 go_wp2_with fail
 refine(y _ bel).mono ?_;rintro e w2 ⟨rfl,O⟩;have C:=O.cells;have q:Ext w w2:=bel
 go_wp2_with fail
 go_ret;subst g;exact⟨A',0,rfl,⟨A',0,rfl,Nat.le_refl _,by omega,.inl rfl⟩,q⟩
end
section
open Go.Shelf
def qdf (l:List Bool) (i:Nat):Bool:=l.getD i false
def mkT (l:List Bool) (k:Nat):List Int:=((List.range k).filter (qdf l)).map λi:Nat=>(i:Int)
abbrev mkL (l:List Bool):List Int:=mkT l l.length
theorem qte (l:List Bool) (k:Nat):mkT l (k+1)=if qdf l k=true then mkT l k++[(k:Int)] else mkT l k:=by
 unfold mkT;rw[List.range_succ,List.filter_append,List.map_append,List.filter_cons]
 by_cases h:qdf l k=true
 .rw [if_pos h,if_pos h];rfl
 rw[if_neg h,if_neg h,List.filter_nil,List.map_nil,List.append_nil]
theorem mkT_mem (l:List Bool) (k:Nat) (j:Int):j∈mkT l k↔∃i:Nat,i<k/\qdf l i=true/\(i:Int)=j:=by
 unfold mkT;simp only[List.mem_map,List.mem_filter,List.mem_range,and_assoc]
theorem mkT_len (l:List Bool) (k:Nat):(mkT l k).length<=k:=by
 unfold mkT;have:=List.length_filter_le (qdf l) (List.range k);rw[List.length_map];simpa using this
theorem qd6 {l:List Bool} {k:Nat} (h:k<l.length):qdf l k=l[k]:=by simp[qdf,List.getD_eq_getElem?_getD,List.getElem?_eq_getElem h]
theorem qjb:(Tryz.prog.info? 3).map (λi=>(i.zero,i.size,i.bytes))=some (some (.int .i64 0),1,8):=by kernel_rfl
def MarkP (r:List Int) (w:World) (e:Ending) (w':World):Prop:=∃A c,e = .returned (.slice A r.length c)/\qab qad 1 3 w.heap.size (λ_=>False) w' r (.slice A r.length c)/\Ext w w'
theorem qs6 (S:Nat->Prop) (l:List Bool) (v:Value) (w:World) (U:RSl qac 1 S w l [v]) (hl:l.length<=1000000):Calls Tryz.prog 108 #[v] w (MarkP (mkL l) w):=by
 obtain⟨A,c,rfl,hc,aa⟩:=U.val;have HX:=Hd U;clear U
 go_enter Tryz.func108,Tryz.ntmps108
 go_wp2_with fail
 go_loopw [3,4] (λv3 Y wr=>∃(k:Nat) (o:List Int) (u:Option Addr) (y:Nat),k<=l.length/\Y = .int .i64 k/\v3 = .slice u o.length y/\Hid (o=mkT l k)/\Ext w wr/\Hid (qab qad 1 3 w.heap.size (λ_=>False) wr o (.slice u o.length y))) (λ_ Y _=>l.length-(intOf Y).toNat)
 case atStart=>exact⟨0,[],none,0,Nat.zero_le _,rfl,rfl,by simp[mkT,Hid],Ext.refl _,qab.nil ..⟩
 obtain⟨k,o,u,y,hk,rfl,rfl,D,z,B⟩:=hrel
 by_cases I:k<l.length
 .obtain ⟨b,ab,cs,rfl,hb,C,F,hr,f⟩:=((RSl.good qac.good).bel HX.out z).get k I;obtain rfl:cs=[.bool l[k]]:=hr;have a0:=f.get 0 _;simp only[Nat.add_zero,Nat.mul_one]at a0;have g:=Hd (qte l k);rw[qd6 I]at g
  cases r:l[k]
  .rw [r]at a0 g;clear F f C r
   go_wp2_with fail
   go_roundw
   case rel=>exact⟨k+1,o,u,y,by omega,by go_num,rfl,by rw[D.out];exact g.out.symm,z,B.out⟩
   simp[intOf];omega
  rw[r]at a0 g;have V:o.length<=1000000:=by have:=mkT_len l k;rw[D.out];omega
  obtain⟨g2,c2,w2,L,J,E,_,_⟩:=qcw qad.good (by decide) w.heap.size 3 53 (.int .i64 0) 8 Tryz.underlying53 qjb rfl (by decide) (λ_=>False) wr o (.slice u o.length y) (k:Int) [.int .i64 k] B.out ⟨rfl,by unfold I64;omega⟩ z.size V;have N:=Hd J;have G:∀q,(Value.slice u o.length y).ownBlock=some q->w.heap.size<=q:=λq e=>(B.out.own_lt e).1
  have M:Hid (Ext w w2):=Bt.new z E λq _ h=>G q h
  have O:Hid (o++[(k:Int)]=mkT l (k+1)):=by
   show _=_;rw[D.out];exact g.out.symm
  clear F f C r B J E G D g
  go_wp2_with (at_builtin;refine wpList_append_run rfl _ _ _ rfl _ _ _ rfl rfl L ?_;clear L)
  go_roundw
  case rel=>exact⟨k+1,o++[(k:Int)],some ⟨g2,0,none⟩,c2,by omega,by go_num,by simp,O.out,M.out,(by have h:=N.out;show qab _ _ _ _ _ _ _ _;simpa using h)⟩
  simp[intOf];omega
 have T:k=l.length:=by omega
 subst T;have X:=D.out;subst X
 go_wp2_with fail
 go_ret;exact⟨u,y,rfl,B.out,z⟩
end
end Go.Proofs.YtegenalcheooeaaGreat
