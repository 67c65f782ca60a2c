/- Of the proof of a law of the suites: LibIInt, Ref, Verd, Asked. -/
import Derived.Test.YtegenalcheooeaaGreatB01
import Derived.Test.YtegenalcheooeaaGreatB08
set_option linter.unusedSectionVars false
set_option linter.unusedSimpArgs false
set_option linter.unusedVariables false
namespace Go.Proofs.YtegenalcheooeaaGreat
open Go.RowKit
attribute [local go_sem] cell?_exto
set_option maxHeartbeats 16000000
set_option maxRecDepth 100000
section
/- slices.IndexFunc and ContainsFunc at each element type of the program: what they come to,whatever function value they are given. -/
theorem idxFInt {σ:Type} (J:σ->World->Prop) (d:σ->Int->Bool×σ) (S:Nat->Prop) (w:World) (xs:List (Int)) (v:Value) (M:RSl qad 1 S w xs [v]) (g:Nat) (lb:Array Value)
  (eg:∀args w,(callFunc g args).run Tryz.prog w = .ok (.enter g args) w) (U:∀s W,J s W->Kp S w W)
  (O:∀x∈xs,∀s cs W,J s W->qad S W x cs->Calls Tryz.prog g (#[cs.headD undef]++lb) W λe w'=>e = .returned (.bool (d s x).1)/\J (d s x).2 w') (F:σ) (Y:J F w) :
  Calls Tryz.prog 114 #[v,.func (.func g) #[] lb] w λe w'=>e = .returned (.int .i64 (qav d F xs).1)/\J (qav d F xs).2 w':=by
 obtain⟨A,c,rfl,hc,aa⟩:=M.val;have HX:=Hd M;have X:=Hd O;have HJ:=Hd U;clear M O U
 go_enter Tryz.func114,Tryz.ntmps114
 go_wp2
 go_loopw [5,8] (λ_ i wr=>∃k:Nat,k<=xs.length/\i = .int .i64 k/\Hid (∃s,J s wr/\qav d F xs=((qav d s (xs.drop k)).1+(if (qav d s (xs.drop k)).1<0 then 0 else (k:Int)),(qav d s (xs.drop k)).2))) (λ_ i _=>xs.length-(intOf i).toNat)
 case atStart=>exact⟨0,Nat.zero_le _,rfl,F,Y,by simp⟩
 obtain⟨k,hk,rfl,s,hs,hf⟩:=hrel
 by_cases E:k<xs.length
 .obtain ⟨b,L,cs,rfl,hb,hS,V,hr,u⟩:=((RSl.good qad.good).move HX.out (HJ.out _ _ hs)).get k E;have m:=X.out xs[k] (List.getElem_mem E) s cs wr hs hr
  obtain⟨G,rfl⟩:∃G,cs=[G]:=by
   match cs,V with
   | [G],_=>exact⟨G,rfl⟩
  have g0:=(by simpa using u.get 0 _:wr.cell? ⟨b,L+k,none⟩=some G)
  rw[List.drop_eq_getElem_cons E,qav]at hf;clear u V hS hr
  cases N:(d s xs[k]).1 with
  | true =>
   rw[N]at m hf;have I:=Hd hf;clear hf
   go_wp2_with fail
   refine m.mono ?_;rintro e w' ⟨rfl,D⟩
   go_wp2_with fail
   go_ret;rw[I.out];exact⟨by simp,D⟩
  | false =>
   rw[N]at m hf;have I:=Hd hf;clear hf
   go_wp2_with fail
   refine m.mono ?_;rintro e w' ⟨rfl,D⟩
   go_wp2_with fail
   go_roundw
   case rel =>
    refine⟨k+1,by omega,by go_num,_,D,?_⟩;rw[I.out];exact qjo _ _
   simp[intOf];omega
 have hd:xs.drop k=[]:=List.drop_of_length_le (by omega);rw[hd,qav]at hf;have I:=Hd hf;clear hf
 go_wp2
 go_ret;rw[I.out];exact⟨by simp,hs⟩
theorem conFInt {σ:Type} (J:σ->World->Prop) (d:σ->Int->Bool×σ) (S:Nat->Prop) (w:World) (xs:List (Int)) (v:Value) (D:RSl qad 1 S w xs [v]) (g:Nat) (lb:Array Value)
  (L:∀args w,(callFunc g args).run Tryz.prog w = .ok (.enter g args) w) (G:∀s W,J s W->Kp S w W)
  (F:∀x∈xs,∀s cs W,J s W->qad S W x cs->Calls Tryz.prog g (#[cs.headD undef]++lb) W λe w'=>e = .returned (.bool (d s x).1)/\J (d s x).2 w') (u:σ) (M:J u w) :
  Calls Tryz.prog 50 #[v,.func (.func g) #[] lb] w λe w'=>e = .returned (.bool (qc9 d u xs).1)/\J (qc9 d u xs).2 w':=by
 obtain⟨A,c,rfl,N,I⟩:=D.val;have m:=idxFInt J d S w xs _ D g lb L G F u M;rw[qje];clear D F G
 go_enter Tryz.func50,Tryz.ntmps50
 go_wp2_with fail
 refine m.mono ?_;rintro e w' ⟨rfl,E⟩
 go_wp2_with fail
 all_goals go_ret
 all_goals exact⟨by simp,E⟩
theorem conPInt (p:Int->Bool) (S:Nat->Prop) (w:World) (xs:List (Int)) (v:Value) (d:RSl qad 1 S w xs [v]) (g:Nat) (lb:Array Value)
  (D:∀args w,(callFunc g args).run Tryz.prog w = .ok (.enter g args) w)
  (A:∀x∈xs,∀cs W,Ext w W->qad S W x cs->Calls Tryz.prog g (#[cs.headD undef]++lb) W λe w'=>e = .returned (.bool (p x))/\Ext W w') :
  Calls Tryz.prog 50 #[v,.func (.func g) #[] lb] w λe w'=>e = .returned (.bool (xs.any p))/\Ext w w' :=
 (conFInt (λ(_:Unit) W=>Ext w W) (λs x=>(p x,s)) S w xs v d g lb D (λ_ _ h=>Ext.kp h) (λx d s cs W u hr=>(A x d cs W u hr).mono λe w' ⟨m,c⟩=>⟨m,u.trans' c⟩) () (Ext.refl w)).mono
  λe w' ⟨m,c⟩=>⟨by rw[m,qkc],c⟩
end
section
/- suite.refuses,After,Refuses: walked. -/
def qcl (s:Sy) (sts:List Int) (l:List Lb):Bool:=sts.any λt=>!qe1 (qbo s t) l
theorem eg167:∀args w,(callFunc 167 args).run Tryz.prog w = .ok (.enter 167 args) w:=enters_of Tryz.func167 (by kernel_rfl) rfl
theorem qw9 (S:Nat->Prop) (s:Sy) (M:qah s) (g:Nat) (t:Int) (l:List Lb) (v:Value) (E D:Nat) (w:World) (N:I64 t) (hS:qaz S w g s) (L:qaa S w l [v]) (hn:l.length<=4611686018427387903)
  (Y:w.cell? ⟨E,0,none⟩=some (.pointer (some ⟨g,0,none⟩))) (V:w.cell? ⟨D,0,none⟩=some v) :
  Calls Tryz.prog 167 #[.int .i64 t,.pointer (some ⟨E,0,none⟩),.pointer (some ⟨D,0,none⟩)] w λe w'=>e = .returned (.bool (!qe1 (qbo s t) l))/\Ext w w':=by
 have d:=λW (F:Ext w W)=>qot S s M g t W N (hS.bel F)
 have m:=λW (F:Ext w W) u (O:qaa (λ_=>True) W (qbo s t) [u])=>qqm (λ_=>True) (qbo s t) l u v W O (qaa.good.bel (qaa.good.mono L λ_ _ _=>trivial) F) hn
 obtain⟨A,c,rfl,_,_⟩:=L.val;have U:=World.block_lt_of_cell? w _ Y;have X:=World.block_lt_of_cell? w _ V;clear hS L
 go_enter Tryz.func167,Tryz.ntmps167
 go_wp2_with fail
 go_region_held3 (λW=>W.cell? ⟨E,0,none⟩=some (.pointer (some ⟨g,0,none⟩))/\W.cell? ⟨D,0,none⟩=some (.slice A l.length c))
  (first | (refine⟨?_,?_⟩ <;> go_simp <;> done) | exact Ext.k2 I (by assumption) | exact Ext.k2 G (by assumption))
  (first | (go_at_call 141;refine(d _ bel).mono ?_;rintro e w1 ⟨A1,c1,rfl,J,I⟩) | (go_at_call 146;refine(m _ bel _ (qaa.good.bel (qaa.good.mono (J.sl RLb.good (by decide)) λ_ _ _=>trivial) bel)).mono ?_;rintro e w2 ⟨rfl,G⟩))
 go_wp2_with fail
 go_ret;exact⟨rfl,bel⟩
theorem qq7 (S:Nat->Prop) (s:Sy) (J:qah s) (g:Nat) (m:List Int) (l:List Lb) (E v:Value) (w:World) (hS:qaz S w g s) (hs:RSl qad 1 S w m [E]) (I:qaa S w l [v]) (hn:l.length<=4611686018427387903) :
  Calls Tryz.prog 102 #[.pointer (some ⟨g,0,none⟩),E,v] w λe w'=>e = .returned (.bool (qcl s m l))/\Ext w w':=by
 have u:=λF D W (G:Ext w W) (M:W.cell? ⟨F,0,none⟩=some (.pointer (some ⟨g,0,none⟩))) (O:W.cell? ⟨D,0,none⟩=some v)=>conPInt (λt=>!qe1 (qbo s t) l) S W m E ((RSl.good qad.good).bel hs G) 167 #[.pointer (some ⟨F,0,none⟩),.pointer (some ⟨D,0,none⟩)] eg167
  (λx X cs W' d hr=>by
   obtain⟨rfl,hi⟩:=hr
   exact qw9 S s J g x l v F D W' hi (hS.bel (G.trans' d)) (qaa.good.bel I (G.trans' d)) hn (Ext.keep d M) (Ext.keep d O))
 obtain⟨A,c,rfl,hc,U⟩:=hs.val;obtain⟨V,Y,rfl,N,L⟩:=I.val;clear hs I hS
 go_enter Tryz.func102,Tryz.ntmps102
 go_wp2_with fail
 refine(u _ _ _ bel (by go_simp) (by go_simp)).mono ?_;rintro e w1 ⟨rfl,M⟩
 go_wp2_with fail
 go_ret;exact⟨rfl,bel⟩
open Classical in
noncomputable def qej (s:Sy) (tr:List Lb):Int:=if qah s then (if qbk tr then 0 else 1) else 8
open Classical in
noncomputable def qeb (s:Sy) (tr:List Lb):List Int:=if qah s/\qbk tr=true then qao s tr else []
theorem After_c (S:Nat->Prop) (s:Sy) (cs:List Value) (u:List Lb) (v:Value) (w:World) (U:RSy S w s cs) (N:qaa S w u [v]) :
  Calls Tryz.prog 40 #[.agg cs.toArray,v] w λe w'=>∃A c,e = .returned (.tuple #[.slice A (qeb s u).length c,.int .i64 (qej s u)])/\qab qad 1 3 w.heap.size (λ_=>False) w' (qeb s u) (.slice A (qeb s u).length c)/\Ext w w':=by
 have E:=λW (I:Ext w W)=>qn8 S u v W (qaa.good.bel N I)
 obtain⟨_,vl,ve,rfl,L,J⟩:=id U;obtain⟨Al,cl,rfl,_,_⟩:=L.val;obtain⟨Ae,ce,rfl,_,_⟩:=J.val;obtain⟨A,c,rfl,hc,ab⟩:=N.val;have Y:=Hd U;have HT:=Hd N;clear U N L J
 by_cases m:qah s
 case neg =>
  have D:=λW (I:Ext w W)=>qij S s _ W (RSy.good.bel Y.out I) m
  have F:=Hd (And.intro (show qej s u=8 from if_neg m) (show qeb s u=[] from if_neg λh=>m h.1))
  go_enter Tryz.func40,Tryz.ntmps40
  go_wp2_with fail
  refine(D _ bel).mono ?_;rintro e w1 ⟨rfl,X⟩
  go_wp2_with fail
  go_ret2;rw[F.out.1,F.out.2];exact⟨none,0,rfl,qab.nil ..,bel⟩
 have D:=λW (I:Ext w W)=>qhj S s _ W (RSy.good.bel Y.out I) m
 by_cases d:qbk u=true
 case neg =>
  rw[eq_false_of_ne_true d]at E;have F:=Hd (And.intro (show qej s u=1 from by rw[qej,if_pos m,if_neg d]) (show qeb s u=[] from if_neg λh=>d h.2))
  go_enter Tryz.func40,Tryz.ntmps40
  go_wp2_with fail
  refine(D _ bel).mono ?_;rintro e w1 ⟨g,rfl,X,V,hS⟩
  go_wp2_with fail
  refine(E _ bel).mono ?_;rintro e w2 ⟨rfl,h2⟩
  go_wp2_with fail
  go_ret2;rw[F.out.1,F.out.2];exact⟨none,0,rfl,qab.nil ..,bel⟩
 rw[d]at E;have F:=Hd (And.intro (show qej s u=0 from by rw[qej,if_pos m,if_pos d]) (show qeb s u=qao s u from if_pos ⟨m,d⟩));have G:u.length<=4611686018427387903:=by simp[qbk]at d;omega
 have O:=λW g (V:qaz (λ_=>True) W g s) (I:Ext w W)=>qlp (λ_=>True) s m g u _ W V (qaa.good.bel (qaa.good.mono HT.out λ_ _ _=>trivial) I) G
 clear G d
 go_enter Tryz.func40,Tryz.ntmps40
 go_wp2_with fail
 refine(D _ bel).mono ?_;rintro e w1 ⟨g,rfl,X,V,hS⟩;have HS:=Hd hS;clear hS
 go_wp2_with fail
 refine(E _ bel).mono ?_;rintro e w2 ⟨rfl,h2⟩
 go_wp2_with fail
 refine(O _ g ((HS.out.mono λ_ _ _=>trivial).bel bel) bel).mono ?_;rintro e w3 h3;obtain⟨A3,c3,rfl,M,aa⟩:=h3.at (b':=w.heap.size) (by have:=X.size;have:=h2.size;simp at *;omega);have HO:=Hd M;clear M h3
 go_wp2_with fail
 go_ret2;rw[F.out.1,F.out.2];exact⟨A3,c3,rfl,HO.out,bel⟩
open Classical in
noncomputable def qcq (s:Sy) (tr l:List Lb):Int:=if qah s then (if qbk tr && qbt l then 0 else 1) else 8
open Classical in
noncomputable def qdn (s:Sy) (tr l:List Lb):Bool:=if qah s/\(qbk tr && qbt l)=true then qcl s (qao s tr) l else false
theorem qu6 (S:Nat->Prop) (s:Sy) (cs:List Value) (D l:List Lb) (v u:Value) (w:World) (hx:RSy S w s cs) (ht:qaa S w D [v]) (hl:qaa S w l [u]) :
  Calls Tryz.prog 30 #[.agg cs.toArray,v,u] w λe w'=>e = .returned (.tuple #[.bool (qdn s D l),.int .i64 (qcq s D l)])/\Ext w w':=by
 have G:=λW (L:Ext w W)=>qn8 S D v W (qaa.good.bel ht L)
 have M:=λW (L:Ext w W)=>isSet_c S l u W (qaa.good.bel hl L)
 obtain⟨_,vl,ve,rfl,X,U⟩:=id hx;obtain⟨Al,cl,rfl,_,_⟩:=X.val;obtain⟨Ae,ce,rfl,_,_⟩:=U.val;obtain⟨A,c,rfl,hc,ae⟩:=ht.val;obtain⟨A',c',rfl,ad,ac⟩:=hl.val;have HX:=Hd hx;have HT:=Hd ht;have HL:=Hd hl;clear hx ht hl X U
 by_cases d:qah s
 case neg =>
  have E:=λW (L:Ext w W)=>qij S s _ W (RSy.good.bel HX.out L) d
  have J:=Hd (And.intro (show qcq s D l=8 from if_neg d) (show qdn s D l=false from if_neg λh=>d h.1))
  go_enter Tryz.func30,Tryz.ntmps30
  go_wp2_with fail
  refine(E _ bel).mono ?_;rintro e w1 ⟨rfl,h1⟩
  go_wp2_with fail
  go_ret2;rw[J.out.1,J.out.2];exact⟨rfl,bel⟩
 have E:=λW (L:Ext w W)=>qhj S s _ W (RSy.good.bel HX.out L) d
 by_cases m:qbk D=true
 case neg =>
  rw[eq_false_of_ne_true m]at G;have J:=Hd (And.intro (show qcq s D l=1 from by rw[qcq,if_pos d,eq_false_of_ne_true m];rfl) (show qdn s D l=false from if_neg λh=>m (by have:=h.2;simp at this;exact this.1)))
  go_enter Tryz.func30,Tryz.ntmps30
  go_wp2_with fail
  refine(E _ bel).mono ?_;rintro e w1 ⟨g,rfl,h1,O,hS⟩
  go_wp2_with fail
  refine(G _ bel).mono ?_;rintro e w2 ⟨rfl,h2⟩
  go_wp2_with fail
  go_ret2;rw[J.out.1,J.out.2];exact⟨rfl,bel⟩
 rw[m]at G
 by_cases F:qbt l=true
 case neg =>
  rw[eq_false_of_ne_true F]at M;have J:=Hd (And.intro (show qcq s D l=1 from by rw[qcq,if_pos d,m,eq_false_of_ne_true F];rfl) (show qdn s D l=false from if_neg λh=>F (by have:=h.2;simp at this;exact this.2)))
  go_enter Tryz.func30,Tryz.ntmps30
  go_wp2_with fail
  refine(E _ bel).mono ?_;rintro e w1 ⟨g,rfl,h1,O,hS⟩
  go_wp2_with fail
  refine(G _ bel).mono ?_;rintro e w2 ⟨rfl,h2⟩
  go_wp2_with fail
  refine(M _ bel).mono ?_;rintro e w3 ⟨rfl,h3⟩
  go_wp2_with fail
  go_ret2;rw[J.out.1,J.out.2];exact⟨rfl,bel⟩
 rw[F]at M;have J:=Hd (And.intro (show qcq s D l=0 from by rw[qcq,if_pos d,m,F];rfl) (show qdn s D l=qcl s (qao s D) l from if_pos ⟨d,by simp[m,F]⟩));have N:D.length<=4611686018427387903:=by simp[qbk]at m;omega
 have I:l.length<=4611686018427387903:=by simp[qbt]at F;omega
 have aa:=λW g (O:qaz (λ_=>True) W g s) (L:Ext w W)=>qlp (λ_=>True) s d g D _ W O (qaa.good.bel (qaa.good.mono HT.out λ_ _ _=>trivial) L) N
 have ab:=λW g vs (O:qaz (λ_=>True) W g s) (hv:RSl qad 1 (λ_=>True) W (qao s D) [vs]) (L:Ext w W)=>qq7 (λ_=>True) s d g (qao s D) l vs _ W O hv (qaa.good.bel (qaa.good.mono HL.out λ_ _ _=>trivial) L) I
 clear N I m F
 go_enter Tryz.func30,Tryz.ntmps30
 go_wp2_with fail
 refine(E _ bel).mono ?_;rintro e w1 ⟨g,rfl,h1,O,hS⟩;have HS:=Hd hS;clear hS
 go_wp2_with fail
 refine(G _ bel).mono ?_;rintro e w2 ⟨rfl,h2⟩
 go_wp2_with fail
 refine(M _ bel).mono ?_;rintro e w3 ⟨rfl,h3⟩
 go_wp2_with fail
 refine(aa _ g ((HS.out.mono λ_ _ _=>trivial).bel bel) bel).mono ?_;rintro e w4 Y;obtain⟨A4,c4,rfl,V,h4⟩:=Y.at (b':=w.heap.size) (by have:=h1.size;have:=h2.size;have:=h3.size;simp at *;omega);have HO:=Hd V;clear V Y
 go_wp2_with fail
 refine(ab _ g _ ((HS.out.mono λ_ _ _=>trivial).bel bel) ((RSl.good qad.good).mono ((RSl.good qad.good).bel (HO.out.sl qad.good (by decide)) bel) λ_ _ _=>trivial) bel).mono ?_;rintro e w5 ⟨rfl,h5⟩
 go_wp2_with fail
 go_ret2;rw[J.out.1,J.out.2];exact⟨rfl,bel⟩
end
section
/- suite.verdicts and its three functions: walked. -/
open Go.Shelf
attribute [local go_sem] Oper.semAt_some
def qi8 (s:Sy) (t:Te):Bool:=(qao s t.tr).any λx=>qe1 (qbo s x) t.mu
def qbz (s:Sy) (t:Te):Bool:=qcl s (qao s t.tr) t.mu
def qhk (s:Sy) (tr:List Lb) (k:Nat):Bool:=qcl s (qao s (tr.take k)) ((tr.drop k).take 1)
def qhu (s:Sy) (t:Te):Bool:=(List.range t.tr.length).any (qhk s t.tr)
theorem RSl.sub1 {α:Type} {R:Rdr α} {k:Nat} {S:Nat->Prop} {w:World} {xs:List α} {b d n c:Nat} (h:RSl R k S w xs [.slice (some ⟨b,d,none⟩) n c]) (i:Nat) (hi:i<xs.length) :
  RSl R k S w ((xs.drop i).take 1) [.slice (some ⟨b,d+i*k,none⟩) 1 (c-i)]:=by
 obtain⟨A,L,e,J,I,D⟩:=h;injection e with e
 injection e with e1 e2 e3
 subst e1 e2 e3;have G:((xs.drop i).take 1)=[xs[i]]:=by rw[List.drop_eq_getElem_cons hi];rfl
 rw[G];refine⟨_,c-i,rfl,by simp;omega,by omega,.inr ?_⟩
 rcases D with rfl | ⟨b',m,e,E,F,u⟩
 .simp at hi
 injection e with e
 injection e with e1 e2
 subst e1 e2;obtain⟨cs,g1,g2,g3⟩:=u.get i hi;exact⟨b,d+i*k,rfl,E,F,⟨cs,g1,g2,g3⟩,trivial⟩
theorem eg169:∀args w,(callFunc 169 args).run Tryz.prog w = .ok (.enter 169 args) w:=enters_of Tryz.func169 (by kernel_rfl) rfl
theorem pass1_c (S:Nat->Prop) (s:Sy) (M:qah s) (g:Nat) (t:Int) (l:List Lb) (v:Value) (E D:Nat) (w:World) (N:I64 t) (hS:qaz S w g s) (L:qaa S w l [v]) (hn:l.length<=4611686018427387903)
  (Y:w.cell? ⟨E,0,none⟩=some (.pointer (some ⟨g,0,none⟩))) (V:w.cell? ⟨D,1,none⟩=some v) :
  Calls Tryz.prog 169 #[.int .i64 t,.pointer (some ⟨E,0,none⟩),.pointer (some ⟨D,0,none⟩)] w λe w'=>e = .returned (.bool (qe1 (qbo s t) l))/\Ext w w':=by
 have d:=λW (F:Ext w W)=>qot S s M g t W N (hS.bel F)
 have m:=λW (F:Ext w W) u (O:qaa (λ_=>True) W (qbo s t) [u])=>qqm (λ_=>True) (qbo s t) l u v W O (qaa.good.bel (qaa.good.mono L λ_ _ _=>trivial) F) hn
 obtain⟨A,c,rfl,_,_⟩:=L.val;have U:=World.block_lt_of_cell? w _ Y;have X:=World.block_lt_of_cell? w _ V;clear hS L
 go_enter Tryz.func169,Tryz.ntmps169
 go_wp2_with fail
 go_region_held3 (λW=>W.cell? ⟨E,0,none⟩=some (.pointer (some ⟨g,0,none⟩))/\W.cell? ⟨D,1,none⟩=some (.slice A l.length c))
  (first | (refine⟨?_,?_⟩ <;> go_simp <;> done) | exact Ext.k2 I (by assumption) | exact Ext.k2 G (by assumption))
  (first | (go_at_call 141;refine(d _ bel).mono ?_;rintro e w1 ⟨A1,c1,rfl,J,I⟩) | (go_at_call 146;refine(m _ bel _ (qaa.good.bel (qaa.good.mono (J.sl RLb.good (by decide)) λ_ _ _=>trivial) bel)).mono ?_;rintro e w2 ⟨rfl,G⟩))
 go_wp2_with fail
 go_ret;exact⟨rfl,bel⟩
theorem pass_c (S:Nat->Prop) (s:Sy) (G:qah s) (g:Nat) (t:Te) (v u:Value) (w:World) (hS:qaz S w g s) (L:qaa S w t.tr [v]) (V:qaa S w t.mu [u]) (U:t.tr.length<=4611686018427387903) (N:t.mu.length<=4611686018427387903) :
  Calls Tryz.prog 168 #[.pointer (some ⟨g,0,none⟩),.agg #[v,u]] w λe w'=>e = .returned (.bool (qi8 s t))/\Ext w w':=by
 have I:=λW (m:Ext w W)=>(qlp S s G g t.tr v W (hS.bel m) (qaa.good.bel L m) U).mono λe w' h=>qhf.at h (b':=w.heap.size) m.size
 have D:=λO J W (m:Ext w W) (Y:Value) (hv:RSl qad 1 (λ_=>True) W (qao s t.tr) [Y]) (h1:W.cell? ⟨O,0,none⟩=some (.pointer (some ⟨g,0,none⟩))) (h2:W.cell? ⟨J,1,none⟩=some u)=>conPInt (λx=>qe1 (qbo s x) t.mu) (λ_=>True) W (qao s t.tr) Y hv 169 #[.pointer (some ⟨O,0,none⟩),.pointer (some ⟨J,0,none⟩)] eg169
  (λx hx cs W' d hr=>by
   obtain⟨rfl,hi⟩:=hr
   exact pass1_c S s G g x t.mu u O J W' hi (hS.bel (m.trans' d)) (qaa.good.bel V (m.trans' d)) N (Ext.keep d h1) (Ext.keep d h2))
 obtain⟨A,c,rfl,hc,ad⟩:=L.val;obtain⟨A',c',rfl,ab,X⟩:=V.val;clear L V hS
 go_enter Tryz.func168,Tryz.ntmps168
 go_wp2_with fail
 refine(I _ bel).mono ?_;rintro e w1 ⟨A1,c1,rfl,F,E⟩;have aa:=E.cells;have ae:=E.size;have M:=(RSl.good qad.good).mono (F.sl qad.good (by decide)) (λ_ _ _=>trivial) (S':=λ_=>True);clear F
 go_wp2_with fail
 refine(D _ _ _ bel _ M (by go_simp) (by go_simp)).mono ?_;rintro e w2 ⟨rfl,ac⟩
 go_wp2_with fail
 go_ret;exact⟨rfl,bel⟩
theorem fail_c (S:Nat->Prop) (s:Sy) (m:qah s) (g:Nat) (t:Te) (v u:Value) (w:World) (hS:qaz S w g s) (F:qaa S w t.tr [v]) (N:qaa S w t.mu [u]) (J:t.tr.length<=4611686018427387903) (G:t.mu.length<=4611686018427387903) :
  Calls Tryz.prog 170 #[.pointer (some ⟨g,0,none⟩),.agg #[v,u]] w λe w'=>e = .returned (.bool (qbz s t))/\Ext w w':=by
 have D:=λW (d:Ext w W)=>(qlp S s m g t.tr v W (hS.bel d) (qaa.good.bel F d) J).mono λe w' h=>qhf.at h (b':=w.heap.size) d.size
 have E:=λW (d:Ext w W) (U:Value) (X:RSl qad 1 (λ_=>True) W (qao s t.tr) [U])=>qq7 (λ_=>True) s m g (qao s t.tr) t.mu U u W ((hS.mono λ_ _ _=>trivial).bel d) X (qaa.good.bel (qaa.good.mono N λ_ _ _=>trivial) d) G
 obtain⟨A,c,rfl,hc,ab⟩:=F.val;obtain⟨V,Y,rfl,aa,O⟩:=N.val;clear F N hS
 go_enter Tryz.func170,Tryz.ntmps170
 go_wp2_with fail
 go_region_held3 (λW=>W.cell? ⟨w.heap.size,0,none⟩=some (.slice A t.tr.length c)/\W.cell? ⟨w.heap.size,1,none⟩=some (.slice V t.mu.length Y))
  (first | (refine⟨?_,?_⟩ <;> go_simp <;> done) | exact Ext.k2 L (by assumption) | exact Ext.k2 I (by assumption))
  (first | (go_at_call 81;refine(D _ bel).mono ?_;rintro e w1 ⟨A1,c1,rfl,M,L⟩) | (go_at_call 102;refine(E _ bel _ ((RSl.good qad.good).bel ((RSl.good qad.good).mono (M.sl qad.good (by decide)) λ_ _ _=>trivial) bel)).mono ?_;rintro e w2 ⟨rfl,I⟩))
 go_wp2_with fail
 go_ret;exact⟨rfl,bel⟩
theorem qu5 {d:Func} {p:Tmp} (h:d.results = #[.cell p 4]) (tmps:Array Value) (w:World) (g:Nat) (b:Bool) (m:tmps.getD p undef = .pointer (some ⟨g,0,none⟩)) (u:w.cell? ⟨g,0,none⟩=some (.bool b)) :
  (results d tmps).run Tryz.prog w = .ok (.bool b) w:=by
 have c:tmps[p]?.getD undef = .pointer (some ⟨g,0,none⟩):=by simpa using m
 simp[results,h,c,asAddr,go_sem,u]
theorem openB_not {s:Sy} {t:Te} (h:∀k,k<t.tr.length->qhk s t.tr k=false):qhu s t=false:=by
 rw[qhu,List.any_eq_false];exact λk c=>by rw[h k (List.mem_range.1 c)];simp
theorem openB_yes {s:Sy} {t:Te} {k:Nat} (c:k<t.tr.length) (h:qhk s t.tr k=true):qhu s t=true:=List.any_eq_true.2 ⟨k,List.mem_range.2 c,h⟩
theorem open_c (S:Nat->Prop) (s:Sy) (aq:qah s) (g:Nat) (t:Te) (v u:Value) (w:World) (hS:qaz S w g s) (ht:qaa S w t.tr [v]) (hm:qaa S w t.mu [u]) (aB:t.tr.length<=4611686018427387903) :
  Calls Tryz.prog 171 #[.pointer (some ⟨g,0,none⟩),.agg #[v,u]] w λe w'=>e = .returned (.bool (qhu s t))/\Ext w w':=by
 have HS:=Hd hS;have HT:=Hd ht;have aJ:=hm.oneCell;obtain⟨U,V,rfl,aG,aF⟩:=ht.val;obtain⟨Am,cm,rfl,_,_⟩:=hm.val;clear hS ht hm;refine(callsIn_wide (n:=3)).1 ?_;refine callsIn_of_wp_marks Tryz.func171 rfl trivial ?_ rfl;simp only[Tryz.ntmps171,List.size_toArray,List.length_cons,List.length_nil,Nat.reduceAdd,Nat.reduceSub,Array.replicate_succ,Array.replicate_zero,List.push_toArray,List.append_toArray,List.nil_append,List.cons_append]
 gi_wp2_with fail
 refine⟨trivial,?_⟩
 gi_at_call 150
 refine(qom 2 (some ⟨g,0,none⟩) U t.tr.length V _).mono ?_;rintro e w1 ⟨rfl,rfl⟩
 gi_wp2_with fail
 obtain⟨um,aD⟩:=nm (Value.slice Am t.mu.length cm);rw[aD];obtain⟨W0,E⟩:=nm (((((w.alloc (.cells #[.pointer (some ⟨g,0,none⟩)] 111)).alloc (.cells #[.slice U t.tr.length V,um] 40)).alloc (.cells #[.bool false] 4)).alloc (.cells #[.pointer (some ⟨g,0,none⟩)] 111)).alloc (.cells #[.slice U t.tr.length V] 22));have aE:W0.heap.size=w.heap.size+5:=by rw[<- E];simp
 have aa:Ext w W0:=by rw[<- E];exact(((((Ext.refl w).alloc _).alloc _).alloc _).alloc _).alloc _
 have ap:Boxed W0 w.heap.size 111 (.pointer (some ⟨g,0,none⟩)):=by rw[<- E];exact((((Boxed.new w 111 _).alloc _).alloc _).alloc _).alloc _
 have aj:W0.cell? ⟨w.heap.size+1,0,none⟩=some (.slice U t.tr.length V):=by
  subst E;go_simp
 have F:Boxed W0 (w.heap.size+2) 4 (.bool false):=by
  rw[<- E];have:=((Boxed.new ((w.alloc (.cells #[.pointer (some ⟨g,0,none⟩)] 111)).alloc (.cells #[.slice U t.tr.length V,um] 40)) 4 (.bool false)).alloc (.cells #[.pointer (some ⟨g,0,none⟩)] 111)).alloc (.cells #[.slice U t.tr.length V] 22)
  rwa [World.size_alloc,World.size_alloc]at this
 have b3:W0.cell? ⟨w.heap.size+3,0,none⟩=some (.pointer (some ⟨g,0,none⟩)):=by
  subst E;go_simp
 have b4:W0.cell? ⟨w.heap.size+4,0,none⟩=some (.slice U t.tr.length V):=by
  subst E;go_simp
 rw[E];clear E;obtain⟨Z,hZ⟩:∃Z:Nat->Prop,Z=λq=>(S q/\q<w.heap.size)\/q=w.heap.size\/q=w.heap.size+1\/q=w.heap.size+3\/q=w.heap.size+4:=⟨_,rfl⟩
 have au:qaz Z W0 g s:=(HS.out.mono (S':=Z) λq I G=>by rw[hZ];exact .inl ⟨G,I⟩).bel aa;have ay:qaa Z W0 t.tr [.slice U t.tr.length V]:=qaa.good.bel (qaa.good.mono HT.out (S':=Z) λq I G=>by rw[hZ];exact .inl ⟨G,I⟩) aa;have ao:=Hd au;have ak:=Hd ay;have av:=Hd b3;have az:=Hd b4;clear b3 b4
 refine qq0 (by omega) (gf:=220) (lb:=#[.pointer (some ⟨w.heap.size+3,0,none⟩),.pointer (some ⟨w.heap.size+4,0,none⟩)]) rfl (enters_of Tryz.func220 (by kernel_rfl) rfl)
  (qov (3-1) (by omega) (λb=>b=w.heap.size+2) Z s aq g t.tr _ (w.heap.size+3) (w.heap.size+4) W0 (λk hk=>by
   rw[hZ]at hk
   rcases hk with⟨_,h⟩ | h | h | h | h <;> constructor <;> omega) (λk hk=>by omega) ao.out ak.out (by rw[hZ];simp) (by rw[hZ];simp) av.out az.out aB)
  (λ_=>rfl) kc_t (λW l o o' I G h3=>kc_b W l o o' I G h3)
  (λpre W=>Bt (λ_=>False) W0 W/\∀k,k<pre.length->k<t.tr.length->qhk s t.tr k=false)
  (λc _ W=>c = .ret/\qhu s t=true/\Bt (λb=>b=w.heap.size+2) W0 W/\Boxed W (w.heap.size+2) 4 (.bool true)) ?own ?ownx
  ⟨Bt.refl _ _,λk hk=>by simp at hk⟩
  (λpre x a' W=>walkG s t.tr W0.heap.size pre x W/\a'={ tmps:=#[.pointer (some ⟨g,0,none⟩),.agg #[.slice U t.tr.length V,um],.pointer (some ⟨w.heap.size,0,none⟩),.pointer (some ⟨w.heap.size+1,0,none⟩),.pointer (some ⟨w.heap.size+2,0,none⟩),.int .i64 (x.1:Int),x.2,.pointer (some ⟨g,0,none⟩),.pointer (some ⟨w.heap.size+1,0,none⟩),.slice U t.tr.length V,.func (.func 220) #[] #[.pointer (some ⟨w.heap.size+3,0,none⟩),.pointer (some ⟨w.heap.size+4,0,none⟩)],.int .i64 (x.1:Int),x.2,undef,undef,undef,undef,undef,undef,undef,undef,undef,undef,undef,undef,undef,undef,undef,undef],defers:=[] })
  (λpre x a' _ X Y row hs hg hr=>⟨⟨hs.1.1,hs.1.2.1,qno () X Y row hs.1.2.2 hg hr⟩,hs.2⟩)
  ?assign ?body ?done ?stop
 case own =>
  rintro pre X Y r ⟨I,G⟩ hg hr;exact⟨qi5 _ _ () X Y r I hg hr,G⟩
 case ownx =>
  rintro c pre X Y r ⟨h0,I,G,h3⟩ hg hr;exact⟨h0,I,qi5 _ _ () X Y r G hg hr,(hg.block _ h3.lt λe=>by have:=(hr _ e.symm).1;omega).trans h3⟩
 case assign =>
  rintro l2 pre ⟨xi,xv⟩ W aH hI hG hK;unfold qke;simp only
  gi_wp2
  exact hK _ _ (KeepsFrom.refl _ _) ⟨Nat.le_refl _,λ_ _ h _ _=>h⟩ hI ⟨hG,rfl⟩
 case body =>
  rintro l2 pre ⟨xi,xv⟩ a' W aK _ ⟨hb,O⟩ ⟨⟨al,aw,ab⟩,rfl⟩;simp only at al aw ab;obtain rfl:=al;have d:Ext W0 W:=Bt.new (Ext.refl _) hb λ_ _ h=>h.elim
  have x0:=Ext.keep d ap.cell;have x1:=Ext.keep d aj;have x2:=Ext.keep d F.cell;have ai:=λX (hX:Ext W X) (l:List Lb) (vl:Value) (hl:qaa Z X l [vl]) (hn:l.length<=4611686018427387903)=>qq7 (λ_=>True) s aq g (qao s (t.tr.take pre.length)) l xv vl X ((ao.out.mono λ_ _ _=>trivial).bel (d.trans' hX)) ((RSl.good qad.good).bel ((RSl.good qad.good).mono (ab.sl qad.good (by decide)) λ_ _ _=>trivial) hX) (qaa.good.mono hl λ_ _ _=>trivial) hn
  obtain⟨A3,c3,rfl,_,_⟩:=(ab.sl qad.good (by decide)).val;have an:=Hd O;have HB:=Hd hb;clear ab O hb ap aj
  by_cases ae:pre.length<t.tr.length
  .have af:=qaa.good.bel ak.out d;obtain⟨b,aI,cs,hA,_⟩:=af.get pre.length ae;obtain rfl:=hA;have ac:=λX (hX:Ext W X)=>RSl.sub1 (qaa.good.bel af hX) pre.length ae
   have A:=λX (hX:Ext W X)=>ai X hX _ _ (ac X hX) (by simp;omega)
   clear ai ac af;have am:decide ((pre.length:Int)<(t.tr.length:Int))=true:=by simp;omega
   cases hv:qhk s t.tr pre.length with
   | false =>
    rw[show qcl s (qao s (t.tr.take pre.length)) ((t.tr.drop pre.length).take 1)=false from hv]at A;have HV:=Hd hv;clear hv
    gi_wp2_with fail
    (refine qds (by kernel_rfl) (by kernel_rfl) (by kernel_rfl) ?_;(repeat (first | go_big_quiet_step (exact qbh (A _ (qa7 _ _))) | quiet_step (exact qbh (A _ (qa7 _ _)))));refine wpQuiet_nil ?_)
    intro w4 m
    gi_wp2
    refine⟨qfu m _,Kc.of_bt m.bt,HB.out.trans m.bt,λk hk ad=>?_⟩;rw[List.length_append,List.length_singleton]at hk
    by_cases e:k=pre.length
    .rw [e];exact HV.out
    exact an.out k (by omega) ad
   | true =>
    rw[show qcl s (qao s (t.tr.take pre.length)) ((t.tr.drop pre.length).take 1)=true from hv]at A;have HV:=Hd hv;clear hv
    gi_wp2_with fail
    (refine qds (by kernel_rfl) (by kernel_rfl) (by kernel_rfl) ?_;(repeat (first | go_big_quiet_step (exact qbh (A _ (qa7 _ _))) | quiet_step (exact qbh (A _ (qa7 _ _)))));refine wpQuiet_nil ?_)
    intro w4 m;have J:Boxed w4 (w.heap.size+2) 4 (.bool false):=(m.block _ (Nat.lt_of_lt_of_le F.lt d.size)).trans ((d.block _ F.lt).trans F);have y4:=J.cell;have aC:=J.frozen;have L:=Hd J;clear J
    gi_wp2
    exact⟨(qfu m _).trans ((KeepsOthers.setCell _ _ _).from _),rfl,openB_yes ae HV.out,Bt.set (Z:=λb=>b=w.heap.size+2) (p:=⟨w.heap.size+2,0,none⟩) ((HB.out.mono λ_ _ h=>h.elim).trans m.bt) (.inr rfl) _,L.out.set _⟩
  have am:decide ((pre.length:Int)<(t.tr.length:Int))=false:=by simp;omega
  clear ai
  gi_wp2_with fail
  (refine qds (by kernel_rfl) (by kernel_rfl) (by kernel_rfl) ?_;(repeat (first | go_big_quiet_step ((fail)) | quiet_step ((fail))));refine wpQuiet_nil ?_)
  intro w4 m
  gi_wp2
  exact⟨qfu m _,Kc.of_bt m.bt,HB.out.trans m.bt,λk hk ad=>an.out k (by omega) ad⟩
 case done =>
  rintro D ys W hD aL ⟨hb,O⟩ N;have d:Ext W0 W:=Bt.new (Ext.refl _) hb λ_ _ h=>h.elim
  have J:Boxed W (w.heap.size+2) 4 (.bool false):=(d.block _ F.lt).trans F;have y4:=J.cell;have aC:=J.frozen;have L:=Hd J;have HD:=Hd N;have HV:=Hd (openB_not λk hk=>O k (by omega) hk);clear J N O
  gi_wp2
  have aA:=L.out.set (.bool false);have ah:Bt (λb=>b=w.heap.size+2) W (W.setCell ⟨w.heap.size+2,0,none⟩ (.bool false)):=Bt.set (Z:=λb=>b=w.heap.size+2) (p:=⟨w.heap.size+2,0,none⟩) (Bt.refl _ _) (.inr rfl) _
  have hM:Marks W0.heap.size [{ target:=.collected D,args:=#[] }] (W.setCell ⟨w.heap.size+2,0,none⟩ (.bool false)):=(Marks.nil W0.heap.size W0).cons hD (by omega) ((ah.block _ (Array.getElem?_eq_some_iff.1 HD.out).1 (by omega)).trans HD.out) (λr I G=>(ah.block r (by have:=d.size;omega) (by
   rintro rfl;rw[show W0.heap[w.heap.size+2]? = _ from F]at G
   cases G)).trans ((d.block r I).trans G))
  refine Marks.leave (by simp) hM λw3 M=>?_
  have ag:=M.cell aA.cell (by simp;intro h;omega);refine⟨_,qu5 rfl _ _ _ false rfl ag,by rw[HV.out],?_⟩;exact Bt.new (Bt.new (aa.trans' d) ah λi _ hi=>by have ax:i=w.heap.size+2:=hi;omega) M λi _ hi=>by have:=hi.1;omega
 rintro D c pre W hD _ ⟨rfl,hv,hb,J⟩ N;have L:=Hd J;have HD:=Hd N;have HV:=Hd hv;have HB:=Hd hb;clear J N hv hb
 gi_wp2
 have hM:Marks W0.heap.size [{ target:=.collected D,args:=#[] }] W:=(Marks.nil W0.heap.size W0).cons hD (by omega) HD.out (λr I G=>(HB.out.block r I (by
  rintro rfl;rw[show W0.heap[w.heap.size+2]? = _ from F]at G
  cases G)).trans G)
 refine Marks.leave (by simp) hM λw3 M=>?_
 have ag:=M.cell L.out.cell (by simp;intro h;omega);refine⟨_,qu5 rfl _ _ _ true rfl ag,by rw[HV.out],?_⟩;exact Bt.new (Bt.new aa HB.out λi _ hi=>by have ax:i=w.heap.size+2:=hi;omega) M λi _ hi=>by have:=hi.1;omega
end
section
open Go.Shelf
def qd3 (ts:List Te):Int:=if ts.length<=4000 then (if ts.all qbj then 0 else 340) else 1
open Classical in
noncomputable def qal (s:Sy) (ts:List Te):Int:=if qah s then qd3 ts else 8
def AskPost (S:Nat->Prop) (s:Sy) (err:Int) (w:World) (e:Ending) (w':World):Prop :=
 (err=0->SysPost S s w e w')/\(err≠0->e = .returned (.tuple #[.pointer none,.int .i64 err])/\Ext w w')
theorem qlx (S:Nat->Prop) (s:Sy) (cs:List Value) (ts:List Te) (v:Value) (w:World) (hx:RSy S w s cs) (ht:RSl RTe 2 S w ts [v]) :
  Calls Tryz.prog 99 #[.agg cs.toArray,v] w (AskPost S s (qal s ts) w):=by
 obtain⟨_,vl,ve,rfl,U,N⟩:=id hx;obtain⟨Al,cl,rfl,_,_⟩:=U.val;obtain⟨Ae,ce,rfl,_,_⟩:=N.val;obtain⟨A,c,rfl,hc,ag⟩:=ht.val;have HX:=Hd hx;have HT:=Hd ht;clear hx ht U N
 by_cases D:qah s
 case neg =>
  have m:=λW (hW:Ext w W)=>qij S s _ W (RSy.good.bel HX.out hW) D
  have M:=Hd (show qal s ts=8 from if_neg D)
  go_enter Tryz.func99,Tryz.ntmps99
  go_wp2_with fail
  refine(m _ bel).mono ?_;rintro e w1 ⟨rfl,h1⟩
  go_wp2_with fail
  go_ret2;rw[M.out];exact⟨λh=>by simp at h,λ_=>⟨rfl,bel⟩⟩
 have m:=λW (hW:Ext w W)=>qhj S s _ W (RSy.good.bel HX.out hW) D
 by_cases E:ts.length<=4000
 case neg =>
  have M:=Hd (show qal s ts=1 from by rw[qal,if_pos D,qd3,if_neg E]);have af:4000<ts.length:=by omega
  clear E
  go_enter Tryz.func99,Tryz.ntmps99
  go_wp2_with fail
  refine(m _ bel).mono ?_;rintro e w1 ⟨g,rfl,h1,hg,hS⟩
  go_wp2_with fail
  go_ret2;rw[M.out];exact⟨λh=>by simp at h,λ_=>⟨rfl,bel⟩⟩
 have M:=Hd (show qal s ts=if ts.all qbj then 0 else 340 from by rw[qal,if_pos D,qd3,if_pos E])
 go_enter Tryz.func99,Tryz.ntmps99
 go_wp2_with fail
 refine(m _ bel).mono ?_;rintro e w1 ⟨g,rfl,h1,hg,hS⟩;have ad:Ext w w1:=bel;have HS:=Hd (hS.mono (S':=λk=>S k\/w.heap.size<=k) λk _ h=>h.imp id λh'=>by simp at h';omega);have ab:w.heap.size<=g:=by simp at hg;omega
 clear hS hg h1
 go_wp2_with fail
 go_loopw [24] (λvi wr=>∃k:Nat,k<=ts.length/\vi = .int .i64 k/\Hid ((ts.drop k).all qbj=ts.all qbj)/\Ext w1 wr) (λvi _=>ts.length-(intOf vi).toNat)
 case atStart=>exact⟨0,Nat.zero_le _,rfl,rfl,Ext.refl _⟩
 obtain⟨k,hk,rfl,G,hE⟩:=hrel;have J:=ad.trans' hE
 by_cases Y:k<ts.length
 .obtain ⟨b,ae,cs,rfl,hb,ac,hl,hr,u⟩:=((RSl.good RTe.good).bel HT.out J).get k Y;obtain⟨v0,v1,rfl,V,O⟩:=id hr;obtain⟨a0,a1⟩:=g2 u;have F:=λX (hX:Ext wr X)=>qzq S ts[k] _ X (RTe.good.bel hr hX)
  obtain⟨B0,c0,rfl,_,_⟩:=V.val;obtain⟨B1,c1,rfl,_,_⟩:=O.val;have d:=G.out;rw[List.drop_eq_getElem_cons Y,List.all_cons]at d;clear u hl hr V O ac
  cases L:qbj ts[k] with
  | false =>
   rw[qf3,L]at F;rw[L]at d;have I:Hid (qal s ts=340):=by show _=_;rw[M.out,<- d];rfl
   clear d L
   go_wp2_with fail
   refine(F _ bel).mono ?_;rintro e w2 ⟨rfl,h2⟩
   go_wp2_with fail
   go_ret2;rw[I.out];exact⟨λh=>by simp at h,λ_=>⟨rfl,J.trans' bel⟩⟩
  | true =>
   rw[qf3,L]at F;rw[L,Bool.true_and]at d;have aa:=Hd d;clear d L
   go_wp2_with fail
   refine(F _ bel).mono ?_;rintro e w2 ⟨rfl,h2⟩
   go_wp2_with fail
   go_roundw
   case rel=>exact⟨k+1,by omega,by go_num,aa.out,hE.trans' bel⟩
   simp[intOf];omega
 have d:=G.out;rw[List.drop_of_length_le (by omega),List.all_nil]at d;have I:Hid (qal s ts=0):=by show _=_;rw[M.out,<- d];rfl
 clear d
 go_wp2_with fail
 go_ret2;rw[I.out];exact⟨λ_=>⟨g,rfl,J,ab,HS.out.bel hE⟩,λh=>absurd rfl h⟩
end
end Go.Proofs.YtegenalcheooeaaGreat
