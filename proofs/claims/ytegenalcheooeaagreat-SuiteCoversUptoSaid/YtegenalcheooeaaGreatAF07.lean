/- Of the proof of a law of the suites: LCompI, RefAfter, RTest, RefRefuses, RVerd, RTests, PJudg, RefSame. -/
import Derived.Test.YtegenalcheooeaaGreatAF01
import Derived.Test.YtegenalcheooeaaGreatAF02
import Derived.Test.YtegenalcheooeaaGreatAF04
import Derived.Test.YtegenalcheooeaaGreatAF05
import Derived.Test.YtegenalcheooeaaGreatAF06
import Derived.Test.YtegenalcheooeaaGreatB03
import Derived.Test.YtegenalcheooeaaGreatB04
import Derived.Test.YtegenalcheooeaaGreatB09
import Derived.Test.YtegenalcheooeaaGreatB10
import Derived.Test.YtegenalcheooeaaGreatB11
set_option linter.unusedSectionVars false
set_option linter.unusedSimpArgs false
set_option linter.unusedVariables false
namespace Go.Proofs.YtegenalcheooeaaGreat
open Go.RowKit
attribute [local go_sem] cell?_exto
set_option maxHeartbeats 16000000
set_option maxRecDepth 100000
section
open Go.Shelf
end
section
open Go.Shelf
end
section
/- The reference's Set,IsTest,CheckTest: walked. -/
theorem Set_c (S:Nat->Prop) (l:List Lb) (v:Value) (w:World) (J:qaa S w l [v]) :
  Calls Tryz.prog 109 #[v] w λe w'=>e = .returned (.bool (qbt l))/\Ext w w':=by
 have f:=λW (hb:Ext w W)=>right_c S l v W (qaa.good.bel J hb)
 obtain⟨A,c,rfl,hc,ae⟩:=J.val;have I:=Hd J;clear J
 by_cases F:l.length<=64
 rotate_left
 .have C:=Hd (show qbt l=false from by simp[qbt,F]);clear f
  go_enter Tryz.func109,Tryz.ntmps109
  go_wp2_with fail
  go_ret;exact⟨by rw[C.out];rfl,bel⟩
 cases D:l.all okV
 .have C:=Hd (show qbt l=false from by simp[qbt,D]);rw[D]at f;clear D
  go_enter Tryz.func109,Tryz.ntmps109
  go_wp2_with fail
  refine(f _ bel).mono ?_;rintro e w1 ⟨rfl,h1⟩
  go_wp2_with fail
  go_ret;exact⟨by rw[C.out];rfl,bel⟩
 have C:=Hd (show qbt l=qf5 l from by simp[qbt,D,F]);rw[D]at f;clear D
 go_enter Tryz.func109,Tryz.ntmps109
 go_wp2_with fail
 refine(f _ bel).mono ?_;rintro e w1 ⟨rfl,h1⟩;replace I:=Hd (qaa.good.bel I.out h1);clear f
 go_wp2_with fail
 go_loopw [3] (λi wr=>∃k:Nat,1<=k/\(k=1\/k<=l.length)/\i = .int .i64 k/\qag w1 wr/\Hid (∀j,(h:j+1<l.length)->j+1<k->qak l[j] l[j+1]<0)) (λi _=>l.length-(intOf i).toNat)
 case atStart=>exact⟨1,by omega,.inl rfl,rfl,qag.refl _,λj _ hj=>absurd hj (by omega)⟩
 obtain⟨k,af,hk,rfl,hE,Y⟩:=hrel
 by_cases G:k<l.length
 .obtain ⟨k,rfl⟩:∃m,k=m+1:=⟨k-1,by omega⟩
  have O:k<l.length:=by omega
  obtain⟨b,q,cs,rfl,hb,hs,hl,hr,r⟩:=(qaa.good.ext I.out hE).get k O;obtain⟨b',aa,ab,N,ad,U,T,z,o⟩:=(qaa.good.ext I.out hE).get (k+1) G;injection N with N
  injection N with he1 he2
  subst he1 he2;obtain⟨_,v1,rfl,V⟩:=id hr;obtain⟨_,v2,rfl,X⟩:=id z;have g0:=r.get 0 _;have g1:=r.get 1 _;have L:=o.get 0 _;have ac:=o.get 1 _;simp only[Nat.add_zero]at g0 L;have y:=λW (hW:qag wr W)=>qmx S _ _ _ _ W (RLb.good.ext hr hW) (RLb.good.ext z hW)
  have z1:(0:Int)<=(k:Int):=by omega
  have z2:((k:Int)+1)<(l.length:Int):=by omega
  have z3:(0:Int)<=(k:Int)+1:=by omega
  have z4:(k:Int)<(l.length:Int):=by omega
  clear r o hl T hs U V X hr z;have y1:IntKind.i64.wrap ((k:Int)+1-1)=(k:Int):=by rw[IntWalk.i64_in _ (by omega)];omega
  have y2:IntKind.i64.wrap (k:Int)=(k:Int):=IntWalk.i64_in _ (by omega)
  by_cases u:qak l[k] l[k+1]<0
  .have E:=Hd u;have hd:decide (qak l[k] l[k+1] ≥ 0)=false:=by simp;omega
   have M:decide (0<=qak l[k] l[k+1])=false:=by simp;omega
   clear u
   go_wp2_with fail
   go_region_held3 (λW=>W.cell? ⟨b,q+k*2,none⟩=some (.int .i64 l[k].g)/\W.cell? ⟨b,q+k*2+1,none⟩=some v1/\W.cell? ⟨b,q+(k+1)*2,none⟩=some (.int .i64 l[k+1].g)/\W.cell? ⟨b,q+(k+1)*2+1,none⟩=some v2)
    (first | (refine⟨?_,?_,?_,?_⟩ <;> go_simp <;> done) | exact B.k4 (by assumption) | exact((qag.refl _).alloc _).k4 (by assumption))
    (first | (go_at_call 172;refine(y _ qan).mono ?_;rintro e w2 ⟨rfl,B⟩))
   clear y1 y2
   go_wp2_with fail
   go_roundw
   case rel =>
    refine⟨k+1+1,by omega,.inr (by omega),by go_num,qan,λj h hj=>?_⟩
    rcases Nat.lt_or_ge j k with h' | h'
    .exact Y j h (by omega)
    obtain rfl:j=k:=by omega
    exact E.out
   simp[intOf];omega
  have E:=Hd (show qf5 l=false from by
   cases h:qf5 l with
   | false=>rfl
   | true=>exact absurd ((qir l).1 h k G) u)
  have M:0<=qak l[k] l[k+1]:=by omega
  clear u
  go_wp2_with fail
  go_region_held3 (λW=>W.cell? ⟨b,q+k*2,none⟩=some (.int .i64 l[k].g)/\W.cell? ⟨b,q+k*2+1,none⟩=some v1/\W.cell? ⟨b,q+(k+1)*2,none⟩=some (.int .i64 l[k+1].g)/\W.cell? ⟨b,q+(k+1)*2+1,none⟩=some v2)
   (first | (refine⟨?_,?_,?_,?_⟩ <;> go_simp <;> done) | exact B.k4 (by assumption) | exact((qag.refl _).alloc _).k4 (by assumption))
   (first | (go_at_call 172;refine(y _ qan).mono ?_;rintro e w2 ⟨rfl,B⟩))
  clear y1 y2
  go_wp2_with fail
  go_ret;exact⟨by rw[C.out,E.out];rfl,bel⟩
 have E:=Hd ((qir l).2 λi hi=>Y i hi (by omega));clear Y
 go_wp2_with fail
 go_ret;exact⟨by rw[C.out,E.out];rfl,bel⟩
theorem qsq (S:Nat->Prop) (t:Te) (cs:List Value) (w:World) (M:RTe S w t cs) :
  Calls Tryz.prog 111 #[.agg cs.toArray] w λe U=>e = .returned (.bool (qbj t))/\Ext w U:=by
 obtain⟨v,u,rfl,J,I⟩:=id M;have B:=λW (o:Ext w W)=>qrc S t.tr v W (qaa.good.bel J o)
 have y:=λW (o:Ext w W)=>Set_c S t.mu u W (qaa.good.bel I o)
 obtain⟨A,c,rfl,Y,T⟩:=J.val;obtain⟨V,X,rfl,E,L⟩:=I.val;clear M J I
 cases z:qbk t.tr with
 | false =>
  have r:=Hd (show qbj t=false from by simp[qbj,z]);rw[z]at B;clear z y
  go_enter Tryz.func111,Tryz.ntmps111
  go_wp2_with fail
  refine(B _ bel).mono ?_;rintro e D ⟨rfl,f⟩
  go_wp2_with fail
  go_ret;exact⟨by rw[r.out];rfl,bel⟩
 | true =>
  rw[z]at B
  cases o:qbt t.mu with
  | false =>
   have r:=Hd (show qbj t=false from by simp[qbj,o]);rw[o]at y;clear z o
   go_enter Tryz.func111,Tryz.ntmps111
   go_wp2_with fail
   refine(B _ bel).mono ?_;rintro e D ⟨rfl,f⟩;have C:=f.cells
   go_wp2_with fail
   refine(y _ bel).mono ?_;rintro e O ⟨rfl,q⟩
   go_wp2_with fail
   go_ret;exact⟨by rw[r.out];rfl,bel⟩
  | true =>
   rw[o]at y;have g:qbj t=decide (0<t.mu.length):=by simp[qbj,z,o]
   clear z o;obtain⟨n,hn⟩:=nm (t.mu.length);rw[hn]at E y g;rw[hn];clear hn
   by_cases N:0<n
   .have r:=Hd (g.trans (decide_eq_true N));clear g
    go_enter Tryz.func111,Tryz.ntmps111
    go_wp2_with fail
    refine(B _ bel).mono ?_;rintro e D ⟨rfl,f⟩;have C:=f.cells;have G:w.heap.size<D.heap.size:=by have:=f.size;simp at this;omega
    go_wp2_with fail
    refine(y _ bel).mono ?_;rintro e O ⟨rfl,q⟩;have F:=q.cells
    go_wp2_with fail
    go_ret;exact⟨by rw[r.out];rfl,bel⟩
   have r:=Hd (g.trans (decide_eq_false N));clear g
   go_enter Tryz.func111,Tryz.ntmps111
   go_wp2_with fail
   refine(B _ bel).mono ?_;rintro e D ⟨rfl,f⟩;have C:=f.cells;have G:w.heap.size<D.heap.size:=by have:=f.size;simp at this;omega
   go_wp2_with fail
   refine(y _ bel).mono ?_;rintro e O ⟨rfl,q⟩;have F:=q.cells
   go_wp2_with fail
   go_ret;exact⟨by rw[r.out];rfl,bel⟩
end
section
open Go.Shelf
end
section
open Go.Shelf
def qgl (s:Sy) (n:Nat) (tr:List Lb) (k:Nat):Bool:=(List.range k).any λi=>match tr[i]? with | some x=>qdz s n (qau s n (tr.take i)) [x] n | none=>false
theorem qyc (s:Sy) (n:Nat) (tr:List Lb) {k:Nat} (h:k<tr.length):qgl s n tr (k+1)=(qgl s n tr k || qdz s n (qau s n (tr.take k)) [tr[k]] n):=by
 rw[qgl,qgl,List.range_succ,List.any_append,List.any_cons,List.any_nil,Bool.or_false,List.getElem?_eq_getElem h]
def qf7 (s:Sy) (n:Nat) (bs:List Bool) (mu:List Lb) (k:Nat):Bool:=(List.range k).any λi=>qdf bs i && qf6 s n i mu
theorem qxo (s:Sy) (n:Nat) (bs:List Bool) (c:List Lb) (k:Nat):qf7 s n bs c (k+1)=(qf7 s n bs c k || (qdf bs k && qf6 s n k c)):=by
 rw[qf7,qf7,List.range_succ,List.any_append,List.any_cons,List.any_nil,Bool.or_false]
theorem one_lb {S:Nat->Prop} {W:World} {x:Lb} {g:Int} {c:Value} (f:x.g=g) (o:RLb S W x [.int .i64 g,c]):qaa (λ_=>True) (W.alloc (.cells #[.int .i64 g,c] 61)) [x] [.slice (some ⟨W.heap.size,0,none⟩) 1 1]:=by
 subst f;refine⟨_,1,rfl,by simp,by decide,.inr ⟨W.heap.size,0,rfl,by rw[World.size_alloc];omega,trivial,⟨[.int .i64 x.g,c],rfl,?_,λi u h=>by have:=qe7 W #[.int .i64 x.g,c] 61 i u h;rwa [Addr.add_lit]at this⟩,trivial⟩⟩;exact RLb.good.bel (RLb.good.mono o λq r h=>trivial) ((Ext.refl W).alloc _)
theorem tkn {P:Program} {q:Region.Mode} {g:Array Oper} {Q:Exit->Act->World->Prop} {S:World->Prop} (i:Nat) {r:Oper} {o:Nat} {f:Array Bool} {a:Act} {w:World}
  (h:wpAnyH P q g Q S o (f.setIfInBounds i true) (a.put r.dst undef) w) (hi:g[i]? = some r:=by exact rfl) (hs:Region.noSelect g=true:=by kernel_rfl) (hf:Region.free q g f i=true:=by kernel_rfl)
  (hr:(Region.ready q g f).contains i=true:=by kernel_rfl) (hQ:∀c a w,Q (.panic c) (a.put r.dst undef) w->Q (.panic c) a w:=by exact λ_ _ _ h=>h) (hn:Region.wanted r (yielded g a.tmps)=false:=by kernel_rfl)
  (hS:S w:=by assumption):wpAnyH P q g Q S (o+1) f a w :=
 wpAnyH_take hi hs hf hr hQ (Or.inr ⟨hn,rfl⟩) hS h
def V3Post (o f p:Bool) (w:World) (e:Ending) (w':World):Prop:=e = .returned (.tuple #[.bool o,.bool f,.bool p])/\Ext w w'
theorem qyy (S:Nat->Prop) (s:Sy) (U:qah s) (cs:List Value) (n:Nat) (hn:s.n=(n:Int)) (t:Te) (X:List Value) (w:World) (hx:RSy S w s cs) (ht:RTe S w t X) (hl:t.tr.length<=1000000) :
  Calls Tryz.prog 125 #[.agg X.toArray,.agg cs.toArray] w (V3Post (qgl s n t.tr t.tr.length) (qdz s n (qau s n t.tr) t.mu n) (qf7 s n (qau s n t.tr) t.mu n) w):=by
 have bq:n<=20000:=by have:=U.2.1;omega
 have hX:RSy (λ_=>True) w s cs:=RSy.good.mono hx λ_ _ _=>trivial
 have r:=λW (F:Ext w W)=>qpt (λ_=>True) s U cs n hn W (RSy.good.bel hX F)
 have M:=λW (F:Ext w W) bs (hb:bs.length=n) u (hu:RSl qac 1 (λ_=>True) W bs [u]) x cx (hc:RLb (λ_=>True) W x cx)=>qpo (λ_=>True) s U cs n hn bs hb u x cx W (RSy.good.bel hX F) hu hc
 have G:=λW (F:Ext w W) bs (hb:bs.length=n) u (hu:RSl qac 1 (λ_=>True) W bs [u]) l v (hc:qaa (λ_=>True) W l [v])=>qv4 (λ_=>True) s U cs n hn bs hb l u v W (RSy.good.bel hX F) hu hc
 have ad:=λst (hs:st<n) W (F:Ext w W) l v (hc:qaa (λ_=>True) W l [v])=>qti (λ_=>True) s U cs n st hn hs l v W (RSy.good.bel hX F) hc
 have aT:=λk=>qjx s n hn (t.tr.take k)
 have ap:=qjx s n hn t.tr;obtain⟨_,v1,u1,rfl,hv,hu⟩:=id hx;obtain⟨Al,cl,rfl,bg,bf⟩:=hv.val;obtain⟨Ae,ce,rfl,bn,be⟩:=hu.val;obtain⟨vt,vm,rfl,aD,aB⟩:=id ht;obtain⟨At,X,rfl,bp,bi⟩:=aD.val;obtain⟨Am,cm,rfl,bo,bh⟩:=aB.val;have HT:Hid (qaa (λ_=>True) w t.tr [.slice At t.tr.length X]):=qaa.good.mono aD λ_ _ _=>trivial
 have HM:Hid (qaa (λ_=>True) w t.mu [.slice Am t.mu.length cm]):=qaa.good.mono aB λ_ _ _=>trivial
 rw[hn]at r M G ad ⊢;have a4:=Hd M;have aK:=Hd G;have aG:=Hd ad;have aH:=Hd aT;have ao:=Hd ap;clear hx hv hu ht aD aB hn U hX M G ad aT ap;obtain⟨Wa,aa⟩:=nm (w.alloc (.cells #[.slice At t.tr.length X,.slice Am t.mu.length cm] 40));have aN:qaf Wa w.heap.size 40 [.slice At t.tr.length X,.slice Am t.mu.length cm]:=by rw[<- aa];exact qaf.new w 40 _
 have aF:Wa.heap.size=w.heap.size+1:=by rw[<- aa,World.size_alloc]
 have aP:Ext w Wa:=by rw[<- aa];exact(Ext.refl w).alloc _
 obtain⟨W0,ak⟩:=nm (Wa.alloc (.cells #[.int .i64 (n:Int),.slice Al s.ls.length cl,.slice Ae s.es.length ce] 25));have aO:qaf W0 (w.heap.size+1) 25 [.int .i64 (n:Int),.slice Al s.ls.length cl,.slice Ae s.es.length ce]:=by rw[<- ak,<- aF];exact qaf.new Wa 25 _
 have aw:Ext Wa W0:=by rw[<- ak];exact(Ext.refl Wa).alloc _
 obtain⟨y,aC⟩:=nm (w.heap.size);have Y:=Hd (aN.ext aw);have N:=Hd aO;have aI:=Hd (aP.trans' aw);rw[aC]at Y N;have a6:=Hd aC;have a9:=Hd aa;have a8:=Hd ak;have bj:=Hd aF;have y0:=Y.out.cell 0 _;have y1:=Y.out.cell 1 _;have yz:=Y.out.lt;have x0:=N.out.cell 0 _;have x1:=N.out.cell 1 _;have x2:=N.out.cell 2 _;have xz:=N.out.lt;have ar:=r W0 aI.out;clear aN aO aP aw aa ak aF aC r
 go_enter Tryz.func125,Tryz.ntmps125
 go_upto_region 1 with (fail)
 rw[a9.out,a8.out,a6.out]
 go_wp2_with fail
 refine ar.mono ?_;rintro e w1 ⟨A,c,rfl,ho,h1⟩;have aJ:=Hd (aI.out.trans' h1);have HBt1:=Hd (Y.out.ext h1);have HBs1:=Hd (N.out.ext h1);have HO:Hid (RSl qac 1 (λ_=>True) w1 (qau s n []) [.slice A n c]):=(RSl.good qac.good).mono (ho.sl qac.good (by decide)) λ_ _ _=>trivial
 clear ho x0 x1 x2 xz y0 y1 yz ar;have y0:=HBt1.out.cell 0 _;have y1:=HBt1.out.cell 1 _;have yz:=HBt1.out.lt
 go_wp2_with fail
 clear y0 y1 yz
 go_loopw [7,8,9] (λv7 vo vi wr=>∃(k:Nat) (A:Option Addr) (c:Nat) (ob:Bool),k<=t.tr.length/\vi = .int .i64 k/\vo = .bool ob/\v7 = .slice A n c/\Ext w1 wr/\Hid (qgl s n t.tr k=ob)/\Hid (RSl qac 1 (λ_=>True) wr (qau s n (t.tr.take k)) [.slice A n c])) (λ_ _ vi _=>t.tr.length-(intOf vi).toNat)
 case atStart=>exact⟨0,A,c,false,Nat.zero_le _,rfl,rfl,rfl,Ext.refl _,(rfl:qgl s n t.tr 0=false),HO.out⟩
 obtain⟨k,A,c,ob,hk,rfl,rfl,rfl,hE,aY,aj⟩:=hrel;have q:=aJ.out.trans' hE;have E:=HBt1.out.ext hE;have B:=HBs1.out.ext hE;have y0:=E.cell 0 _;have y1:=E.cell 1 _;have yz:=E.lt;have x0:=B.cell 0 _;have x1:=B.cell 1 _;have x2:=B.cell 2 _;have xz:=B.lt;clear E B;have z1:(0:Int)<=(k:Int):=by omega
 by_cases am:k<t.tr.length
 .obtain ⟨b,f,bl,rfl,bc,_,_,hr,L⟩:=HT.out.get k am;have HR:=Hd hr;obtain⟨_,vl,rfl,bd⟩:=id hr;have g0:=Ext.keep q (L.get 0 _);have g1:=Ext.keep q (L.get 1 _);simp only[Nat.add_zero]at g0;have hb:b<wr.heap.size:=Nat.lt_of_lt_of_le bc q.size;have z2:(k:Int)<(t.tr.length:Int):=by omega
  have T:k+1<=t.tr.length:=am;have af:=qyc s n t.tr am;rw[aY.out]at af
  have ah:Hid (qdb s (marksOf n (mvL s t.tr[k] (qau s n (t.tr.take k)) s.es.length))=qau s n (t.tr.take (k+1))):=by
   show _=_;rw[List.take_succ_eq_append_getElem am,qmb];rfl
  obtain⟨x,a1⟩:=nm (t.tr[k]);rw[a1]at g0 HR af ah;obtain⟨gx,aA⟩:=nm (x.g);rw[aA]at g0 HR;have a3:=Hd aA;have M:=λW (F:Ext wr W)=>a4.out W (q.trans' F) (qau s n (t.tr.take k)) (aH.out k) _ ((RSl.good qac.good).bel aj.out F) x _ (RLb.good.bel HR.out (q.trans' F))
  obtain⟨NB,aQ⟩:=nm (qdb s (marksOf n (mvL s x (qau s n (t.tr.take k)) s.es.length)));rw[aQ]at M ah;have G:=λW (F:Ext wr W)=>aK.out (W.alloc (.cells #[.int .i64 gx,vl] 61)) ((q.trans' F).trans' ((Ext.refl W).alloc _)) (qau s n (t.tr.take k)) (aH.out k) _ ((RSl.good qac.good).bel aj.out (F.trans' ((Ext.refl W).alloc _))) [x] _ (one_lb a3.out (RLb.good.bel HR.out (q.trans' F)))
  obtain⟨rb,an⟩:=nm (qdz s n (qau s n (t.tr.take k)) [x] n);rw[an]at G af;have aL:=Hd af;obtain⟨I,rfl⟩:∃I,I=wr:=⟨_,rfl⟩
  clear hr L bd a1 aA aQ an af
  cases ob
  .go_wp2_with fail
   refine wp_region_held (S:=λW=>W.cell? ⟨y+1,0,none⟩=some (.int .i64 (n:Int))/\W.cell? ⟨y+1,1,none⟩=some (.slice Al s.ls.length cl)/\W.cell? ⟨y+1,2,none⟩=some (.slice Ae s.es.length ce)/\W.cell? ⟨y,0,none⟩=some (.slice (some ⟨b,f,none⟩) t.tr.length X)/\W.cell? ⟨b,f+k*2,none⟩=some (.int .i64 gx)/\W.cell? ⟨b,f+k*2+1,none⟩=some vl) (by kernel_rfl) ?_;show wpAnyH _ _ _ _ _ _ _ _ I.drew;have hHeld:I.drew.cell? ⟨y+1,0,none⟩=some (.int .i64 (n:Int))/\I.drew.cell? ⟨y+1,1,none⟩=some (.slice Al s.ls.length cl)/\I.drew.cell? ⟨y+1,2,none⟩=some (.slice Ae s.es.length ce)/\I.drew.cell? ⟨y,0,none⟩=some (.slice (some ⟨b,f,none⟩) t.tr.length X)/\I.drew.cell? ⟨b,f+k*2,none⟩=some (.int .i64 gx)/\I.drew.cell? ⟨b,f+k*2+1,none⟩=some vl:=⟨x0,x1,x2,y0,g0,g1⟩
   obtain⟨Wd,ay⟩:=nm (I.drew);have aR:Ext I Wd:=ay ▸ Below.drew (Ext.refl _);rw[ay]at hHeld ⊢;clear ay
   (refine tk 0 ?_;try simp only[qae])
   (refine tk 1 ?_;try simp only[qae])
   (refine tk 2 ?_ (hi:=by exact rfl) (hn:=by kernel_rfl);(try simp only[Act.put,List.setIfInBounds_toArray,List.set_cons_zero,List.set_cons_succ]))
   (refine tk 3 ?_ (hi:=by exact rfl) (hn:=by kernel_rfl);(try simp only[Act.put,List.setIfInBounds_toArray,List.set_cons_zero,List.set_cons_succ]))
   (refine tk 4 ?_ (hi:=by exact rfl) (hn:=by kernel_rfl);(try simp only[Act.put,List.setIfInBounds_toArray,List.set_cons_zero,List.set_cons_succ]))
   (refine tk 5 ?_ (hi:=by exact rfl) (hn:=by kernel_rfl);(try simp only[Act.put,List.setIfInBounds_toArray,List.set_cons_zero,List.set_cons_succ]))
   (refine tk 6 ?_ (hi:=by exact rfl) (hn:=by kernel_rfl);(try simp only[Act.put,List.setIfInBounds_toArray,List.set_cons_zero,List.set_cons_succ]))
   (refine tk 7 ?_ (hi:=by exact rfl) (hn:=by kernel_rfl);(try simp only[Act.put,List.setIfInBounds_toArray,List.set_cons_zero,List.set_cons_succ]))
   (refine tk 8 ?_ (hi:=by exact rfl) (hn:=by kernel_rfl);(try simp only[Act.put,List.setIfInBounds_toArray,List.set_cons_zero,List.set_cons_succ]))
   refine wpAnyH_ready (rs:=[9]) (by kernel_rfl) (by simp) ?_;refine AllReadyH.cons rfl (λK hK=>?_) AllReadyH.nil;go_simp;have C:=Ext.k6 ((Ext.refl Wd).alloc (.cells #[.int .i64 gx,vl] 61)) hHeld;refine hK.out _ _ C (λ_=>?_);clear hK K
   try simp only[Act.put,List.setIfInBounds_toArray,List.set_cons_zero,List.set_cons_succ]
   refine wpAnyH_ready (rs:=[10]) (by kernel_rfl) (by simp) ?_;refine AllReadyH.cons rfl (λK hK=>?_) AllReadyH.nil;go_simp;refine(G Wd aR).mono ?_;rintro e z ⟨rfl,V⟩;refine hK.out _ _ (Ext.k6 V C) (λai=>?_);have o:Ext I z:=(aR.trans' ((Ext.refl Wd).alloc _)).trans' V;clear hK K
   try simp only[Act.put,List.setIfInBounds_toArray,List.set_cons_zero,List.set_cons_succ]
   (refine tk 11 ?_;(try simp only[Act.put,List.getElem_toArray,List.getElem_cons_succ,List.getElem_cons_zero,List.setIfInBounds_toArray,List.set_cons_zero,List.set_cons_succ]))
   (refine tk 12 ?_;(try simp only[Act.put,List.getElem_toArray,List.getElem_cons_succ,List.getElem_cons_zero,List.setIfInBounds_toArray,List.set_cons_zero,List.set_cons_succ]))
   refine wpAnyH_done (by kernel_rfl) ?_ _;obtain⟨c0,c1,c2,d0,e0,e1⟩:=ai;have q1:=Nat.lt_of_lt_of_le xz o.size;have q2:=Nat.lt_of_lt_of_le yz o.size;have q3:=Nat.lt_of_lt_of_le hb o.size;clear hHeld C x0 x1 x2 y0 y1 g0 g1 G
   go_wp2_with fail
   refine wp_region_held (S:=λW=>W.cell? ⟨y+1,0,none⟩=some (.int .i64 (n:Int))/\W.cell? ⟨y+1,1,none⟩=some (.slice Al s.ls.length cl)/\W.cell? ⟨y+1,2,none⟩=some (.slice Ae s.es.length ce)/\W.cell? ⟨y,0,none⟩=some (.slice (some ⟨b,f,none⟩) t.tr.length X)/\W.cell? ⟨b,f+k*2,none⟩=some (.int .i64 gx)/\W.cell? ⟨b,f+k*2+1,none⟩=some vl) (by kernel_rfl) ?_;show wpAnyH _ _ _ _ _ _ _ _ z.drew;have hHeld:z.drew.cell? ⟨y+1,0,none⟩=some (.int .i64 (n:Int))/\z.drew.cell? ⟨y+1,1,none⟩=some (.slice Al s.ls.length cl)/\z.drew.cell? ⟨y+1,2,none⟩=some (.slice Ae s.es.length ce)/\z.drew.cell? ⟨y,0,none⟩=some (.slice (some ⟨b,f,none⟩) t.tr.length X)/\z.drew.cell? ⟨b,f+k*2,none⟩=some (.int .i64 gx)/\z.drew.cell? ⟨b,f+k*2+1,none⟩=some vl:=⟨c0,c1,c2,d0,e0,e1⟩
   obtain⟨We,J⟩:=nm (z.drew);have ac:Ext z We:=J ▸ Below.drew (Ext.refl _);rw[J]at hHeld ⊢;clear J
   (refine tk 0 ?_;try simp only[qae])
   (refine tk 1 ?_;try simp only[qae])
   (refine tk 2 ?_;try simp only[qae])
   (refine tk 3 ?_;try simp only[qae])
   (refine tk 4 ?_;try simp only[qae])
   (refine tk 5 ?_;try simp only[qae])
   (refine tk 6 ?_;try simp only[qae])
   refine wpAnyH_ready (rs:=[7]) (by kernel_rfl) (by simp) ?_;refine AllReadyH.cons rfl (λK hK=>?_) AllReadyH.nil;go_simp;refine(M _ (o.trans' ac)).mono ?_;rintro e w5 ⟨A5,c5,rfl,ae,ag⟩;refine hK.out _ _ (Ext.k6 ag hHeld) (λD=>?_);clear hK K
   try simp only[Act.put,List.setIfInBounds_toArray,List.set_cons_zero,List.set_cons_succ]
   (refine tk 8 ?_;try simp only[qae])
   refine wpAnyH_done (by kernel_rfl) ?_ _;clear hHeld D;have az:Ext I w5:=o.trans' (ac.trans' ag);have av:Hid (RSl qac 1 (λ_=>True) w5 (qau s n (t.tr.take (k+1))) [.slice A5 n c5]):=by rw[<- ah.out];exact(RSl.good qac.good).mono (ae.sl qac.good (by decide)) λ_ _ _=>trivial
   have au:Hid (qgl s n t.tr (k+1)=rb):=by show _=_;rw[aL.out,Bool.false_or]
   clear ae
   go_wp2_with fail
   go_roundw
   case rel=>exact⟨k+1,A5,c5,rb,T,by go_num,rfl,rfl,hE.trans' az,au.out,av.out⟩
   simp[intOf];omega
  go_wp2_with fail
  refine wp_region_held (S:=λ_=>True) (by kernel_rfl) ?_;show wpAnyH _ _ _ _ _ _ _ _ I.drew;have hHeld:True:=trivial;obtain⟨z,aE⟩:=nm (I.drew);have o:Ext I z:=aE ▸ Below.drew (Ext.refl _);rw[aE];clear aE
  (refine tk 0 ?_;try simp only[qae])
  (refine tk 1 ?_;try simp only[qae])
  (refine tkn 2 ?_;(try simp only[Act.put,List.setIfInBounds_toArray,List.set_cons_zero,List.set_cons_succ]))
  (refine tkn 3 ?_;(try simp only[Act.put,List.setIfInBounds_toArray,List.set_cons_zero,List.set_cons_succ]))
  (refine tkn 4 ?_;(try simp only[Act.put,List.setIfInBounds_toArray,List.set_cons_zero,List.set_cons_succ]))
  (refine tkn 5 ?_;(try simp only[Act.put,List.setIfInBounds_toArray,List.set_cons_zero,List.set_cons_succ]))
  (refine tkn 6 ?_;(try simp only[Act.put,List.setIfInBounds_toArray,List.set_cons_zero,List.set_cons_succ]))
  (refine tkn 7 ?_;(try simp only[Act.put,List.setIfInBounds_toArray,List.set_cons_zero,List.set_cons_succ]))
  (refine tkn 8 ?_;(try simp only[Act.put,List.setIfInBounds_toArray,List.set_cons_zero,List.set_cons_succ]))
  (refine tkn 9 ?_;(try simp only[Act.put,List.setIfInBounds_toArray,List.set_cons_zero,List.set_cons_succ]))
  (refine tkn 10 ?_;(try simp only[Act.put,List.setIfInBounds_toArray,List.set_cons_zero,List.set_cons_succ]))
  (refine tk 11 ?_;(try simp only[Act.put,List.getElem_toArray,List.getElem_cons_succ,List.getElem_cons_zero,List.setIfInBounds_toArray,List.set_cons_zero,List.set_cons_succ]))
  (refine tk 12 ?_;(try simp only[Act.put,List.getElem_toArray,List.getElem_cons_succ,List.getElem_cons_zero,List.setIfInBounds_toArray,List.set_cons_zero,List.set_cons_succ]))
  refine wpAnyH_done (by kernel_rfl) ?_ _;have c0:=Ext.keep o x0;have c1:=Ext.keep o x1;have c2:=Ext.keep o x2;have d0:=Ext.keep o y0;have e0:=Ext.keep o g0;have e1:=Ext.keep o g1;have q1:=Nat.lt_of_lt_of_le xz o.size;have q2:=Nat.lt_of_lt_of_le yz o.size;have q3:=Nat.lt_of_lt_of_le hb o.size;clear x0 x1 x2 y0 y1 g0 g1 G
  go_wp2_with fail
  refine wp_region_held (S:=λW=>W.cell? ⟨y+1,0,none⟩=some (.int .i64 (n:Int))/\W.cell? ⟨y+1,1,none⟩=some (.slice Al s.ls.length cl)/\W.cell? ⟨y+1,2,none⟩=some (.slice Ae s.es.length ce)/\W.cell? ⟨y,0,none⟩=some (.slice (some ⟨b,f,none⟩) t.tr.length X)/\W.cell? ⟨b,f+k*2,none⟩=some (.int .i64 gx)/\W.cell? ⟨b,f+k*2+1,none⟩=some vl) (by kernel_rfl) ?_;show wpAnyH _ _ _ _ _ _ _ _ z.drew;have hHeld:z.drew.cell? ⟨y+1,0,none⟩=some (.int .i64 (n:Int))/\z.drew.cell? ⟨y+1,1,none⟩=some (.slice Al s.ls.length cl)/\z.drew.cell? ⟨y+1,2,none⟩=some (.slice Ae s.es.length ce)/\z.drew.cell? ⟨y,0,none⟩=some (.slice (some ⟨b,f,none⟩) t.tr.length X)/\z.drew.cell? ⟨b,f+k*2,none⟩=some (.int .i64 gx)/\z.drew.cell? ⟨b,f+k*2+1,none⟩=some vl:=⟨c0,c1,c2,d0,e0,e1⟩
  obtain⟨We,J⟩:=nm (z.drew);have ac:Ext z We:=J ▸ Below.drew (Ext.refl _);rw[J]at hHeld ⊢;clear J
  (refine tk 0 ?_;try simp only[qae])
  (refine tk 1 ?_;try simp only[qae])
  (refine tk 2 ?_;try simp only[qae])
  (refine tk 3 ?_;try simp only[qae])
  (refine tk 4 ?_;try simp only[qae])
  (refine tk 5 ?_;try simp only[qae])
  (refine tk 6 ?_;try simp only[qae])
  refine wpAnyH_ready (rs:=[7]) (by kernel_rfl) (by simp) ?_;refine AllReadyH.cons rfl (λK hK=>?_) AllReadyH.nil;go_simp;refine(M _ (o.trans' ac)).mono ?_;rintro e w5 ⟨A5,c5,rfl,ae,ag⟩;refine hK.out _ _ (Ext.k6 ag hHeld) (λD=>?_);clear hK K
  try simp only[Act.put,List.setIfInBounds_toArray,List.set_cons_zero,List.set_cons_succ]
  (refine tk 8 ?_;try simp only[qae])
  refine wpAnyH_done (by kernel_rfl) ?_ _;clear hHeld D;have az:Ext I w5:=o.trans' (ac.trans' ag);have av:Hid (RSl qac 1 (λ_=>True) w5 (qau s n (t.tr.take (k+1))) [.slice A5 n c5]):=by rw[<- ah.out];exact(RSl.good qac.good).mono (ae.sl qac.good (by decide)) λ_ _ _=>trivial
  have au:Hid (qgl s n t.tr (k+1)=true):=by show _=_;rw[aL.out,Bool.true_or]
  clear ae
  go_wp2_with fail
  go_roundw
  case rel=>exact⟨k+1,A5,c5,true,T,by go_num,rfl,rfl,hE.trans' az,au.out,av.out⟩
  simp[intOf];omega
 obtain rfl:k=t.tr.length:=by omega
 have aM:Hid (RSl qac 1 (λ_=>True) wr (qau s n t.tr) [.slice A n c]):=by have h:=aj.out;rw[List.take_length]at h;exact h
 have a2:=Hd hE;obtain⟨w9,rfl⟩:∃w9,w9=wr:=⟨_,rfl⟩
 clear aj q hE
 go_wp2_with fail
 clear x0 x1 x2 xz y0 y1 yz
 go_loopw [10,11] (λvp vi wr=>∃(k:Nat) (pb:Bool),k<=n/\vi = .int .i64 k/\vp = .bool pb/\Ext w9 wr/\Hid (qf7 s n (qau s n t.tr) t.mu k=pb)) (λ_ vi _=>n-(intOf vi).toNat)
 case atStart=>exact⟨0,false,Nat.zero_le _,rfl,rfl,Ext.refl _,(rfl:qf7 s n (qau s n t.tr) t.mu 0=false)⟩
 obtain⟨k,pb,hk,rfl,rfl,O,aZ⟩:=hrel;have ax:=a2.out.trans' O;have q:=aJ.out.trans' ax;have E:=HBt1.out.ext ax;have B:=HBs1.out.ext ax;have y0:=E.cell 0 _;have y1:=E.cell 1 _;have yz:=E.lt;have x0:=B.cell 0 _;have x1:=B.cell 1 _;have x2:=B.cell 2 _;have xz:=B.lt;clear E B;have z1:(0:Int)<=(k:Int):=by omega
 by_cases aX:k<n
 .have aW:k<(qau s n t.tr).length:=by have:=ao.out;omega
  obtain⟨bb,br,ba,rfl,bm,_,_,an,aq⟩:=((RSl.good qac.good).bel aM.out O).get k aW;obtain rfl:ba=[.bool (qau s n t.tr)[k]]:=an;have d0:=aq.get 0 _;simp only[Nat.add_zero,Nat.mul_one]at d0;have r:=qxo s n (qau s n t.tr) t.mu k;rw[qd6 aW,aZ.out]at r;have al:=λW (F:Ext wr W)=>aG.out k aX W (q.trans' F) t.mu _ (qaa.good.bel HM.out (q.trans' F))
  have z2:(k:Int)<(n:Int):=by omega
  have T:k+1<=n:=aX;obtain⟨bk,aU⟩:=nm ((qau s n t.tr)[k]);rw[aU]at d0 r;obtain⟨ab,aS⟩:=nm (qf6 s n k t.mu);rw[aS]at r al;clear aq aU aS
  cases pb
  .cases bk
   .have HC:Hid (qf7 s n (qau s n t.tr) t.mu (k+1)=false):=by show _=_;rw[r];rfl
    clear r al
    go_wp2_with fail
    go_roundw
    case rel=>exact⟨k+1,false,T,by go_num,rfl,O,HC.out⟩
    simp[intOf];omega
   have HC:Hid (qf7 s n (qau s n t.tr) t.mu (k+1)=ab):=by show _=_;rw[r];simp
   clear r
   go_wp2_with fail
   refine(al _ bel).mono ?_;rintro e z ⟨rfl,V⟩
   go_wp2_with fail
   go_roundw
   case rel=>exact⟨k+1,ab,T,by go_num,rfl,O.trans' V,HC.out⟩
   simp[intOf];omega
  have HC:Hid (qf7 s n (qau s n t.tr) t.mu (k+1)=true):=by show _=_;rw[r,Bool.true_or]
  clear r al
  go_wp2_with fail
  go_roundw
  case rel=>exact⟨k+1,true,T,by go_num,rfl,O,HC.out⟩
  simp[intOf];omega
 obtain rfl:k=n:=by omega
 have aV:=aK.out wr q (qau s k t.tr) ao.out _ ((RSl.good qac.good).bel aM.out O) t.mu _ (qaa.good.bel HM.out q);have a5:=aY;have a7:=aZ
 go_wp2_with fail
 refine aV.mono ?_;rintro e z ⟨rfl,V⟩
 go_wp2_with fail
 go_ret3;exact⟨by rw[a5.out,a7.out];rfl,q.trans' V⟩
end
section
/- The reference's tests,fails,Fails: walked. -/
open Go.Shelf
theorem test_take {l:List Te} {k:Nat} (h:k<l.length):((l.take (k+1)).all qbj)=((l.take k).all qbj && qbj l[k]):=by
 rw[List.take_succ_eq_append_getElem h,List.all_append,List.all_cons,List.all_nil,Bool.and_true]
theorem test_no {l:List Te} {k:Nat} (h:k<l.length) (hf:qbj l[k]=false):(l.all qbj)=false:=by
 rw[List.all_eq_false];exact⟨l[k],List.getElem_mem h,by rw[hf];simp⟩
theorem qnc (S:Nat->Prop) (ts:List Te) (v:Value) (w:World) (J:RSl RTe 2 S w ts [v]):Calls Tryz.prog 126 #[v] w λe w'=>e = .returned (.int .i64 (qd3 ts))/\Ext w w':=by
 obtain⟨A,c,rfl,hc,X⟩:=J.val;have U:=Hd J;clear J
 by_cases h4:(4000:Int)<(ts.length:Int)
 .have T:Hid (qd3 ts=1):=by show _=_;rw[qd3,if_neg (by omega)]
  go_enter Tryz.func126,Tryz.ntmps126
  go_wp2_with fail
  go_ret;exact⟨by rw[T.out];rfl,bel⟩
 go_enter Tryz.func126,Tryz.ntmps126
 go_wp2_with fail
 go_loopw [3] (λM wr=>∃k:Nat,k<=ts.length/\M = .int .i64 k/\Ext w wr/\Hid ((ts.take k).all qbj=true)) (λM _=>ts.length-(intOf M).toNat)
 case atStart=>exact⟨0,Nat.zero_le _,rfl,Ext.refl _,(rfl:([]:List Te).all qbj=true)⟩
 obtain⟨k,hk,rfl,E,z⟩:=hrel
 by_cases q:k<ts.length
 .obtain ⟨b,aa,cs,rfl,hb,hS,Y,hr,f⟩:=((RSl.good RTe.good).bel U.out E).get k q;have o:=qsq S ts[k] cs wr hr;obtain⟨v1,v2,rfl,C,D⟩:=id hr;obtain⟨A1,c1,rfl,_,_⟩:=C.val;obtain⟨A2,c2,rfl,_,_⟩:=D.val;obtain⟨a0,V⟩:=g2 f;have r:=Hd (test_take q);have g:=test_no q;have I:k+1<=ts.length:=q;obtain⟨N,u⟩:=nm ((ts[k]).tr.length);obtain⟨O,y⟩:=nm ((ts[k]).mu.length);rw[u]at a0;rw[y]at V;rw[u,y]at o;obtain⟨L,B⟩:=nm (qbj ts[k]);rw[B]at o r g;clear f Y hS hr C D u y B
  cases L
  .have F:Hid (qd3 ts=340):=by show _=_;rw[qd3,if_pos (by omega),g rfl];rfl
   clear r g
   go_wp2_with fail
   refine o.mono ?_;rintro e w1 ⟨rfl,G⟩
   go_wp2_with fail
   go_ret;exact⟨by rw[F.out];rfl,E.trans' G⟩
  clear g
  go_wp2_with fail
  refine o.mono ?_;rintro e w1 ⟨rfl,G⟩
  go_wp2_with fail
  go_roundw
  case rel=>exact⟨k+1,I,by go_num,E.trans' G,(by rw[r.out,z.out];rfl:(ts.take (k+1)).all qbj=true)⟩
  simp[intOf];omega
 obtain rfl:k=ts.length:=by omega
 have F:Hid (qd3 ts=0):=by
  show _=_;have h:=z.out;rw[List.take_length]at h;rw[qd3,if_pos (by omega),h];rfl
 go_wp2_with fail
 go_ret;exact⟨by rw[F.out];rfl,E⟩
theorem quh {α:Type} (p:α->Bool):∀(l:List α) (k:Nat) (h:k<l.length),(∀j,(f:j<k)->p (l[j]'(by omega))=false)->p l[k]=true->qbd p l=(k:Int)
 | x :: l,0,_,_,h=>by
  rw[qbd,if_pos (by simpa using h)];rfl
 | x :: l,k+1,hk,hn,h=>by
  have c:p x=false:=by simpa using hn 0 (by omega)
  have ih:=quh p l k (by simpa using hk) (λj f=>by simpa using hn (j+1) (by omega)) (by simpa using h);rw[qbd,if_neg (by rw[c];decide),ih,if_neg (by omega)];omega
theorem qsy {α:Type} (p:α->Bool):∀(l:List α),(∀j,(c:j<l.length)->p l[j]=false)->qbd p l = -1
 | [],_=>rfl
 | x :: l,hn=>by
  have f:p x=false:=hn 0 (by simp);have ih:=qsy p l λj c=>hn (j+1) (by simpa using c)
  rw[qbd,if_neg (by rw[f];decide),ih];rfl
def qgu (s:Sy) (n:Nat) (t:Te):Bool:=qdz s n (qau s n t.tr) t.mu n
theorem qvl (S:Nat->Prop) (s:Sy) (ab:qah s) (cs:List Value) (n:Nat) (hn:s.n=(n:Int)) (ts:List Te) (v:Value) (w:World) (hx:RSy S w s cs) (ht:RSl RTe 2 S w ts [v]) (hl:∀t∈ts,t.tr.length<=1000000) :
  Calls Tryz.prog 127 #[v,.agg cs.toArray] w λe w'=>e = .returned (.int .i64 (qbd (qgu s n) ts))/\Ext w w':=by
 have T:=λ(k:Nat) (hk:k<ts.length) F W (hW:Ext w W) (hr:RTe S W ts[k] F)=>qyy S s ab cs n hn ts[k] F W (RSy.good.bel hx hW) hr (hl _ (List.getElem_mem hk))
 obtain⟨_,v1,u1,rfl,hv,hu⟩:=id hx;obtain⟨Al,cl,rfl,aq,ap⟩:=hv.val;obtain⟨Ae,ce,rfl,au,ao⟩:=hu.val;obtain⟨A,c,rfl,hc,ar⟩:=ht.val;have HT:=Hd ht;rw[hn]at T ⊢;have ak:=Hd T;have af:=Hd λk (h:k<ts.length)=>quh (qgu s n) ts k h
 have ah:=Hd (qsy (qgu s n) ts);clear hx hv hu hn ab ht hl T;obtain⟨V,y⟩:=nm (w.alloc (.cells #[.int .i64 (n:Int),.slice Al s.ls.length cl,.slice Ae s.es.length ce] 25));have X:Ext w V:=by rw[<- y];exact(Ext.refl w).alloc _
 have Y:qaf V w.heap.size 25 [.int .i64 (n:Int),.slice Al s.ls.length cl,.slice Ae s.es.length ce]:=by rw[<- y];exact qaf.new w 25 _
 have U:=Hd Y;have ag:=Hd X;have al:=Hd y;obtain⟨E,O⟩:=nm (w.heap.size);rw[O]at U;have ai:=Hd O;clear Y X y O
 go_enter Tryz.func127,Tryz.ntmps127
 go_upto_region 1 with (fail)
 rw[al.out,ai.out]
 go_wp2_with fail
 go_loopw [5] (λvi wr=>∃k:Nat,k<=ts.length/\vi = .int .i64 k/\Ext V wr/\Hid (∀j,(B:j<k)->(J:j<ts.length)->qgu s n ts[j]=false)) (λvi _=>ts.length-(intOf vi).toNat)
 case atStart=>exact⟨0,Nat.zero_le _,rfl,Ext.refl _,λj B=>absurd B (by omega)⟩
 obtain⟨k,hk,rfl,hE,N⟩:=hrel;have r:Ext w wr:=ag.out.trans' hE;have o:=U.out.ext hE;have x0:=o.cell 0 _;have x1:=o.cell 1 _;have x2:=o.cell 2 _;have xz:=o.lt;clear o;have z1:(0:Int)<=(k:Int):=by omega
 by_cases C:k<ts.length
 .obtain ⟨b,D,F,rfl,hb,hS,an,hr,q⟩:=((RSl.good RTe.good).bel HT.out r).get k C;have g:=λW (hW:Ext wr W)=>ak.out k C _ W (r.trans' hW) (RTe.good.bel hr hW)
  obtain⟨v1,v2,rfl,ad,ae⟩:=id hr;obtain⟨A1,c1,rfl,_,_⟩:=ad.val;obtain⟨A2,c2,rfl,_,_⟩:=ae.val;obtain⟨a0,a1⟩:=g2 q;have am:k+1<=ts.length:=C;have z2:(k:Int)<(ts.length:Int):=by omega
  have z:=af.out k C λj B=>N.out j B (by omega)
  have u:qgu s n ts[k]=false->∀j,(B:j<k+1)->(J:j<ts.length)->qgu s n ts[j]=false:=λh j B J=>by
   rcases Nat.lt_or_ge j k with h' | h'
   .exact N.out j h' J
   obtain rfl:j=k:=by omega
   exact h
  obtain⟨n1,L⟩:=nm ((ts[k]).tr.length);obtain⟨n2,M⟩:=nm ((ts[k]).mu.length);rw[L]at a0;rw[M]at a1;rw[L,M]at g;obtain⟨ob,aa⟩:=nm (qgl s n (ts[k]).tr n1);rw[aa]at g;obtain⟨pb,ac⟩:=nm (qf7 s n (qau s n (ts[k]).tr) (ts[k]).mu n);rw[ac]at g;obtain⟨fb,I⟩:=nm (qgu s n ts[k]);rw[show qdz s n (qau s n (ts[k]).tr) (ts[k]).mu n=fb from I]at g;rw[I]at z u;obtain⟨w7,rfl⟩:∃w7,w7=wr:=⟨_,rfl⟩
  clear q an hS hr ad ae L M aa ac I
  cases fb
  .have aj:=Hd (u rfl);clear z u
   go_wp2_with fail
   go_region_held3 (λW=>W.cell? ⟨E,0,none⟩=some (.int .i64 (n:Int))/\W.cell? ⟨E,1,none⟩=some (.slice Al s.ls.length cl)/\W.cell? ⟨E,2,none⟩=some (.slice Ae s.es.length ce)/\W.cell? ⟨b,D+k*2,none⟩=some (.slice A1 n1 c1)/\W.cell? ⟨b,D+k*2+1,none⟩=some (.slice A2 n2 c2))
    (first | (refine⟨?_,?_,?_,?_,?_⟩ <;> go_simp <;> done) | exact Ext.k5 f (by assumption) | exact Ext.k5 (qag.ext f) (by assumption) | exact Ext.k5 ((Ext.refl _).alloc _) (by assumption))
    (first | (go_at_call 125;refine(g _ bel).mono ?_;rintro e w5 ⟨rfl,f⟩))
   have G:Ext w7 w5:=dx f
   go_wp2_with fail
   go_roundw
   case rel=>exact⟨k+1,am,by go_num,hE.trans' G,aj.out⟩
   simp[intOf];omega
  have HY:=Hd (z rfl);clear z u
  go_wp2_with fail
  go_region_held3 (λW=>W.cell? ⟨E,0,none⟩=some (.int .i64 (n:Int))/\W.cell? ⟨E,1,none⟩=some (.slice Al s.ls.length cl)/\W.cell? ⟨E,2,none⟩=some (.slice Ae s.es.length ce)/\W.cell? ⟨b,D+k*2,none⟩=some (.slice A1 n1 c1)/\W.cell? ⟨b,D+k*2+1,none⟩=some (.slice A2 n2 c2))
   (first | (refine⟨?_,?_,?_,?_,?_⟩ <;> go_simp <;> done) | exact Ext.k5 f (by assumption) | exact Ext.k5 (qag.ext f) (by assumption) | exact Ext.k5 ((Ext.refl _).alloc _) (by assumption))
   (first | (go_at_call 125;refine(g _ bel).mono ?_;rintro e w5 ⟨rfl,f⟩))
  have G:Ext w7 w5:=dx f
  go_wp2_with fail
  go_ret;exact⟨by rw[HY.out];rfl,r.trans' G⟩
 obtain rfl:k=ts.length:=by omega
 have HV:Hid (qbd (qgu s n) ts = -1):=ah.out λj B=>N.out j B B
 go_wp2_with fail
 go_ret;exact⟨by rw[HV.out];rfl,r⟩
end
section

theorem qnq {t:Te} (h:qbj t=true):qbk t.tr=true/\Inc t.mu:=by
 rw[qbj,Bool.and_eq_true,Bool.and_eq_true]at h;exact⟨h.1.1,set_inc h.2⟩
theorem qs7 {s:Sy} (c:qah s) {n:Nat} (hn:s.n=(n:Int)) {t:Te} (h:qbj t=true):qgu s n t=qbz s t :=
 qqy c hn (qnq h).1 (qnq h).2
theorem qq8 {α:Type} {p q:α->Bool}:∀{l:List α},(∀x∈l,p x=q x)->qbd p l=qbd q l
 | [],_=>rfl
 | x :: l,h=>by
  rw[qbd,qbd,h x (List.mem_cons_self ..),qq8 λy hy=>h y (List.mem_cons_of_mem _ hy)]
end
section
open Go.Shelf
theorem qy9 (x:Lb):qa8 x x=true:=decide_eq_true (qbe.refl x)
theorem Same_c (S:Nat->Prop) (s:Sy) (cs ck:List Value) (w:World) (hx:RSy S w s cs) (hy:RSy S w s ck) :
  Calls Tryz.prog 71 #[.agg cs.toArray,.agg ck.toArray] w λe w'=>e = .returned (.bool true)/\Ext w w':=by
 have HX:=Hd hx;have HY:=Hd hy;obtain⟨_,v1,u1,rfl,hv,hu⟩:=id hx;obtain⟨A1,c1,rfl,_,_⟩:=hv.val;obtain⟨B1,I,rfl,_,_⟩:=hu.val;obtain⟨_,v2,u2,rfl,T,O⟩:=id hy;obtain⟨A2,c2,rfl,_,_⟩:=T.val;obtain⟨B2,Y,rfl,_,_⟩:=O.val;have am:=Hd hv;have an:=Hd T;have ak:=Hd hu;have al:=Hd O;obtain⟨D,C⟩:=nm (w.alloc (.cells #[.int .i64 s.n,.slice A1 s.ls.length c1,.slice B1 s.es.length I] 25));have ac:qaf D w.heap.size 25 [.int .i64 s.n,.slice A1 s.ls.length c1,.slice B1 s.es.length I]:=by rw[<- C];exact qaf.new w 25 _
 have ai:D.heap.size=w.heap.size+1:=by rw[<- C,World.size_alloc]
 have ae:Ext w D:=by rw[<- C];exact(Ext.refl w).alloc _
 obtain⟨F,E⟩:=nm (D.alloc (.cells #[.int .i64 s.n,.slice A2 s.ls.length c2,.slice B2 s.es.length Y] 25));have ad:qaf F (w.heap.size+1) 25 [.int .i64 s.n,.slice A2 s.ls.length c2,.slice B2 s.es.length Y]:=by rw[<- E,<- ai];exact qaf.new D 25 _
 have J:Ext D F:=by rw[<- E];exact(Ext.refl D).alloc _
 have r:=Hd (ac.ext J);have v:=Hd ad;have aa:Hid (Ext w F):=ae.trans' J;have HW:Hid ((w.alloc (.cells #[.int .i64 s.n,.slice A1 s.ls.length c1,.slice B1 s.es.length I] 25)).alloc (.cells #[.int .i64 s.n,.slice A2 s.ls.length c2,.slice B2 s.es.length Y] 25)=F):=by show _=_;rw[C,E]
 have x0:=r.out.cell 0 _;have x1:=r.out.cell 1 _;have x2:=r.out.cell 2 _;have xz:=r.out.lt;have y0:=v.out.cell 0 _;have y1:=v.out.cell 1 _;have y2:=v.out.cell 2 _;have yz:=v.out.lt;clear hx hy hv hu T O C ac ai ae ad J E
 go_enter Tryz.func71,Tryz.ntmps71
 go_upto_region 1 with (fail)
 rw[HW.out]
 go_wp2_with fail
 clear x0 x1 x2 xz y0 y1 y2 yz
 go_loopw [5] (λV wr=>∃k:Nat,k<=s.ls.length/\V = .int .i64 k/\Ext F wr) (λV _=>s.ls.length-(intOf V).toNat)
 case atStart=>exact⟨0,Nat.zero_le _,rfl,Ext.refl _⟩
 obtain⟨k,hk,rfl,B⟩:=hrel;have A:=r.out.ext B;have G:=v.out.ext B;have x1:=A.cell 1 _;have x2:=A.cell 2 _;have xz:=A.lt;have y1:=G.cell 1 _;have y2:=G.cell 2 _;have yz:=G.lt;have u:Ext w wr:=aa.out.trans' B;clear A G
 by_cases q:k<s.ls.length
 .obtain ⟨b,au,cs,rfl,hb,hS,hl,hr,f⟩:=(qaa.good.bel am.out u).get k q;obtain⟨b2,aj,ao,rfl,ap,L,N,z,c⟩:=(qaa.good.bel an.out u).get k q;have o:=λW (hW:Ext wr W)=>qk9 S _ _ _ _ W (RLb.good.bel hr hW) (RLb.good.bel z hW)
  obtain⟨_,v3,rfl,aq⟩:=id hr;obtain⟨_,v4,rfl,ar⟩:=id z;have a0:=f.get 0 _;have a1:=f.get 1 _;have X:=c.get 0 _;have I:=c.get 1 _;simp only[Nat.add_zero]at a0 X;have M:k+1<=s.ls.length:=q;obtain⟨q1,ag⟩:=nm (s.ls[k].g);rw[ag]at o a0 X;rw[qy9]at o;have af:∀(y:World),Ext wr (qam wr y):=λy=>qa7 _ y
  clear f hl hS hr aq c N L z ar ag
  go_wp2_with fail
  (refine qap ?_;(repeat (first | go_big_quiet_step ((go_at_call 133;exact qaq (o _ (af _)))) | quiet_step ((go_at_call 133;exact qaq (o _ (af _))))));refine wpQuiet_nil ?_)
  intro w4 U
  go_wp2_with fail
  go_roundw
  case rel=>exact⟨k+1,M,by go_num,B.trans' U⟩
  simp[intOf];omega
 obtain rfl:k=s.ls.length:=by omega
 clear q;have ab:=Hd B;clear B u x1 x2 xz y1 y2 yz;obtain⟨w9,rfl⟩:∃w9,w9=wr:=⟨_,rfl⟩
 have A:=r.out.ext ab.out;have x1:=A.cell 1 _;have xz:=A.lt
 go_wp2_with fail
 clear x1 xz A
 go_loopw [6] (λV wr=>∃k:Nat,k<=s.es.length/\V = .int .i64 k/\Ext F wr) (λV _=>s.es.length-(intOf V).toNat)
 case atStart=>exact⟨0,Nat.zero_le _,rfl,ab.out⟩
 obtain⟨k,hk,rfl,B⟩:=hrel;have A:=r.out.ext B;have G:=v.out.ext B;have x2:=A.cell 2 _;have xz:=A.lt;have y2:=G.cell 2 _;have yz:=G.lt;have u:Ext w wr:=aa.out.trans' B;clear A G
 by_cases q:k<s.es.length
 .obtain ⟨b,au,cs,rfl,hb,hS,hl,hr,f⟩:=(qa3.good.bel ak.out u).get k q;obtain⟨b2,aj,ao,rfl,ap,L,N,z,c⟩:=(qa3.good.bel al.out u).get k q;obtain⟨_,_,_,rfl⟩:=id hr;obtain⟨_,_,_,rfl⟩:=id z;have a0:=f.get 0 _;have a1:=f.get 1 _;have a2:=f.get 2 _;have X:=c.get 0 _;have I:=c.get 1 _;have Y:=c.get 2 _;simp only[Nat.add_zero]at a0 X;have M:k+1<=s.es.length:=q;obtain⟨⟨xf,xl,xt⟩,ah⟩:∃x,s.es[k]=x:=⟨_,rfl⟩
  rw[ah]at a0 a1 a2 X I Y;simp only at a0 a1 a2 X I Y;clear f hl hS hr c N L z ah
  go_wp2_with fail
  (refine qap ?_;(repeat (first | go_big_quiet_step ((fail)) | quiet_step ((fail))));refine wpQuiet_nil ?_)
  intro w4 U
  go_wp2_with fail
  go_roundw
  case rel=>exact⟨k+1,M,by go_num,B.trans' U⟩
  simp[intOf];omega
 obtain rfl:k=s.es.length:=by omega
 go_wp2_with fail
 go_ret;exact⟨rfl,u⟩
end
end Go.Proofs.YtegenalcheooeaaGreat
