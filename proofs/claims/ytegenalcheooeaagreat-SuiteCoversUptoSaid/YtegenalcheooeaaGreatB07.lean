/- Of the proof of a law of the suites: LibCLb, Sets, Compact, RangeG, Walk. -/
import Derived.Test.YtegenalcheooeaaGreatB01
import Derived.Test.YtegenalcheooeaaGreatB02
import Derived.Test.YtegenalcheooeaaGreatB04
import Derived.Test.YtegenalcheooeaaGreatB05
import Derived.Test.YtegenalcheooeaaGreatB06
import Derived.Lib.SliceRun
set_option linter.unusedSectionVars false
set_option linter.unusedSimpArgs false
set_option linter.unusedVariables false
namespace Go.Proofs.YtegenalcheooeaaGreat
open Go.RowKit
attribute [local go_sem] cell?_exto
set_option maxHeartbeats 16000000
set_option maxRecDepth 100000
section

theorem cmpFLb (cf:Lb->Lb->Int) (S:Nat->Prop) (w:World) (xs ys:List (Lb)) (v u:Value) (hx:RSl RLb 2 S w xs [v]) (hy:RSl RLb 2 S w ys [u]) (g:Nat) (lb:Array Value)
  (eg:∀args w,(callFunc g args).run Tryz.prog w = .ok (.enter g args) w)
  (hp:∀x∈xs,∀y∈ys,∀cs cs2 W,qag w W->RLb S W x cs->RLb S W y cs2->Calls Tryz.prog g (#[.agg cs.toArray,.agg cs2.toArray]++lb) W λe w'=>e = .returned (.int .i64 (cf x y))/\qag W w') :
  Calls Tryz.prog 210 #[v,u,.func (.func g) #[] lb] w λe w'=>e = .returned (.int .i64 (qa5 cf xs ys))/\qag w w':=by
 obtain⟨A,c,rfl,hc,hc0⟩:=hx.val;obtain⟨A',c',rfl,hc',hc0'⟩:=hy.val;have HX:=Hd hx;have HY:=Hd hy;have HP:=Hd hp;clear hx hy hp
 go_enter Tryz.func210,Tryz.ntmps210
 go_wp2_with fail
 go_loopw [7,8,9,10,13] (λ_ _ _ _ i wr=>∃k:Nat,k<=xs.length/\k<=ys.length/\i = .int .i64 k/\qag w wr/\Hid (qa5 cf xs ys=qa5 cf (xs.drop k) (ys.drop k))) (λ_ _ _ _ i _=>xs.length-(intOf i).toNat)
 case atStart=>exact⟨0,Nat.zero_le _,Nat.zero_le _,rfl,qag.refl _,rfl⟩
 obtain⟨k,hk,hk2,rfl,hE,hf⟩:=hrel
 by_cases hlt:k<xs.length
 .obtain ⟨b,off,cs,rfl,hb,hS,hl,hr,hcell⟩:=((RSl.good RLb.good).ext HX.out hE).get k hlt
  by_cases hlt2:k<ys.length
  .obtain ⟨b2,off2,cs2,rfl,hb2,hS2,hl2,hr2,hcell2⟩:=((RSl.good RLb.good).ext HY.out hE).get k hlt2;have hcon:=λW (hW:qag wr W)=>HP.out xs[k] (List.getElem_mem hlt) ys[k] (List.getElem_mem hlt2) cs cs2 W (hE.trans hW) (RLb.good.ext hr hW) (RLb.good.ext hr2 hW)
   obtain⟨c0,c1,rfl⟩:∃c0 c1,cs=[c0,c1]:=by
    match cs,hl with
    | [c0,c1],_=>exact⟨c0,c1,rfl⟩
   have g0:=(by simpa using hcell.get 0 _:wr.cell? ⟨b,off+k*2,none⟩=some c0)
   have g1:=hcell.get 1 _
   obtain⟨d0,d1,rfl⟩:∃d0 d1,cs2=[d0,d1]:=by
    match cs2,hl2 with
    | [d0,d1],_=>exact⟨d0,d1,rfl⟩
   have q0:=(by simpa using hcell2.get 0 _:wr.cell? ⟨b2,off2+k*2,none⟩=some d0)
   have q1:=hcell2.get 1 _;have s0:=λ(W:World) (a:Addr) (m:Mode)=>run_store Tryz.prog W a c0 m (RLb.good.one hr c0 (by simp))
   have s1:=λ(W:World) (a:Addr) (m:Mode)=>run_store Tryz.prog W a c1 m (RLb.good.one hr c1 (by simp))
   have t0:=λ(W:World) (a:Addr) (m:Mode)=>run_store Tryz.prog W a d0 m (RLb.good.one hr2 d0 (by simp))
   have t1:=λ(W:World) (a:Addr) (m:Mode)=>run_store Tryz.prog W a d1 m (RLb.good.one hr2 d1 (by simp))
   rw[List.drop_eq_getElem_cons hlt,List.drop_eq_getElem_cons hlt2,qa5]at hf;clear hcell hcell2 hl hl2 hS hS2 hr hr2
   by_cases hq:cf xs[k] ys[k]=0
   .rw [if_pos hq]at hf;have Hf:=Hd hf;have hq1:(cf xs[k] ys[k] != 0)=false:=by rw[hq];rfl
    rw[hq]at hcon;clear hf hq1 hq
    go_wp2_with fail
    refine(hcon _ qan).mono ?_;rintro e w1 ⟨rfl,h1⟩
    go_wp2_with fail
    go_roundw
    case rel=>exact⟨k+1,by omega,by omega,by go_num,qan,Hf.out⟩
    simp[intOf];omega
   rw[if_neg hq]at hf;have Hf:=Hd hf;have hq1:(cf xs[k] ys[k] != 0)=true:=bne_iff_ne.2 hq;clear hf hq
   go_wp2_with fail
   refine(hcon _ qan).mono ?_;rintro e w1 ⟨rfl,h1⟩
   go_wp2_with fail
   go_ret;exact⟨by rw[Hf.out];rfl,qan⟩
  rw[List.drop_of_length_le (l:=ys) (by omega),List.drop_eq_getElem_cons hlt,qa5]at hf;have Hf:=Hd hf
  obtain⟨c0,c1,rfl⟩:∃c0 c1,cs=[c0,c1]:=by
   match cs,hl with
   | [c0,c1],_=>exact⟨c0,c1,rfl⟩
  have g0:=(by simpa using hcell.get 0 _:wr.cell? ⟨b,off+k*2,none⟩=some c0)
  have g1:=hcell.get 1 _;have s0:=λ(W:World) (a:Addr) (m:Mode)=>run_store Tryz.prog W a c0 m (RLb.good.one hr c0 (by simp))
  have s1:=λ(W:World) (a:Addr) (m:Mode)=>run_store Tryz.prog W a c1 m (RLb.good.one hr c1 (by simp))
  clear hf hcell
  go_wp2_with fail
  go_ret;exact⟨by rw[Hf.out];rfl,qan⟩
 rw[List.drop_of_length_le (l:=xs) (by omega)]at hf
 by_cases hlt2:k<ys.length
 .rw [List.drop_eq_getElem_cons hlt2,qa5]at hf;have Hf:=Hd hf;clear hf
  go_wp2_with fail
  go_ret;exact⟨by rw[Hf.out];rfl,hE⟩
 rw[List.drop_of_length_le (by omega),qa5]at hf;have Hf:=Hd hf;clear hf
 go_wp2_with fail
 go_ret;exact⟨by rw[Hf.out];rfl,hE⟩
end
section
/- suite.subset,sets,same,and the closures of least: walked. -/
def subB (a b:List Lb):Bool:=!(a.any λx=>!qdt x b)
theorem eg261:∀args w,(callFunc 261 args).run Tryz.prog w = .ok (.enter 261 args) w:=enters_of Tryz.func261 (by kernel_rfl) rfl
theorem subset1_c (S:Nat->Prop) (l:List Lb) (x:Lb) (v:Value) (B:Nat) (m:List Value) (w:World) (E:qaa S w l [v]) (u:RLb S w x m) (hn:l.length<=4611686018427387903) (G:w.cell? ⟨B,0,none⟩=some v) :
  Calls Tryz.prog 261 #[.agg m.toArray,.pointer (some ⟨B,0,none⟩)] w λe w'=>e = .returned (.bool (!qdt x l))/\Ext w w':=by
 have d:=λW (F:qag w W)=>qwd S l x v m W (qaa.good.ext E F) (RLb.good.ext u F) hn
 obtain⟨A,c,rfl,M,I⟩:=E.val;obtain⟨_,L,rfl,D⟩:=id u;have J:=World.block_lt_of_cell? w _ G;clear E u D
 go_enter Tryz.func261,Tryz.ntmps261
 go_wp2_with fail
 refine(d _ qan).mono ?_;rintro e O ⟨rfl,N⟩
 go_wp2_with fail
 go_ret;exact⟨rfl,bel⟩
theorem subset_c (S:Nat->Prop) (a b:List Lb) (D u:Value) (w:World) (E:qaa S w a [D]) (F:qaa S w b [u]) (hn:b.length<=4611686018427387903) :
  Calls Tryz.prog 219 #[D,u] w λe w'=>e = .returned (.bool (subB a b))/\Ext w w':=by
 have m:=λB W (J:Ext w W) (I:W.cell? ⟨B,0,none⟩=some u)=>conPLb (λx=>!qdt x b) S W a D (qaa.good.bel E J) 261 #[.pointer (some ⟨B,0,none⟩)] eg261
  (λx O cs W' d hr=>subset1_c S b x u B cs W' (qaa.good.bel F (J.trans' d)) hr hn ((d.cell (World.block_lt_of_cell? W _ I)).trans I))
 obtain⟨A,c,rfl,V,M⟩:=E.val;obtain⟨N,U,rfl,L,G⟩:=F.val;clear E F
 go_enter Tryz.func219,Tryz.ntmps219
 go_wp2_with fail
 refine(m _ _ bel (by go_simp)).mono ?_;rintro e X ⟨rfl,Y⟩
 go_wp2_with fail
 go_ret;exact⟨rfl,bel⟩
def qez (a b:List Lb):Int:=qa5 qak a b
theorem eg166:∀args w,(callFunc 166 args).run Tryz.prog w = .ok (.enter 166 args) w:=enters_of Tryz.func166 (by kernel_rfl) rfl
theorem sets_c (S:Nat->Prop) (a b:List Lb) (u F:Value) (w:World) (D:qaa S w a [u]) (E:qaa S w b [F]) :
  Calls Tryz.prog 143 #[u,F] w λe w'=>e = .returned (.int .i64 (qez a b))/\qag w w':=by
 have d:=λW (J:qag w W)=>cmpFLb qak S W a b u F (qaa.good.ext D J) (qaa.good.ext E J) 166 #[] eg166
  (λx U y hy cs m W' L hr G=>qi2 S x y cs m W' hr G)
 obtain⟨A,c,rfl,X,N⟩:=D.val;obtain⟨O,V,rfl,M,I⟩:=E.val;clear D E
 go_enter Tryz.func143,Tryz.ntmps143
 go_wp2_with fail
 refine(d _ qan).mono ?_;rintro e Y ⟨rfl,h1⟩
 go_wp2_with fail
 go_ret;exact⟨rfl,qan⟩
theorem same_c (S:Nat->Prop) (a b:List Lb) (u D:Value) (w:World) (E:qaa S w a [u]) (m:qaa S w b [D]) :
  Calls Tryz.prog 145 #[u,D] w λe w'=>e = .returned (.bool (decide (qez a b=0)))/\qag w w':=by
 have d:=λW (G:qag w W)=>sets_c S a b u D W (qaa.good.ext E G) (qaa.good.ext m G)
 obtain⟨A,c,rfl,M,J⟩:=E.val;obtain⟨L,O,rfl,I,F⟩:=m.val;clear E m
 generalize qez a b=i at d ⊢
 go_enter Tryz.func145,Tryz.ntmps145
 go_wp2_with fail
 refine(d _ qan).mono ?_;rintro e U ⟨rfl,N⟩
 go_wp2_with fail
 go_ret;exact⟨rfl,qan⟩
def qge (a b:List Lb):Bool:=decide (b.length<a.length) && subB b a
theorem eg218:∀args w,(callFunc 218 args).run Tryz.prog w = .ok (.enter 218 args) w:=enters_of Tryz.func218 (by kernel_rfl) rfl
theorem least11_c (S:Nat->Prop) (a b:List Lb) (D G:Value) (B:Nat) (w:World) (E:qaa S w a [D]) (F:qaa S w b [G]) (hn:a.length<=4611686018427387903) (L:w.cell? ⟨B,0,none⟩=some D) :
  Calls Tryz.prog 218 #[G,.pointer (some ⟨B,0,none⟩)] w λe w'=>e = .returned (.bool (qge a b))/\Ext w w':=by
 have d:=λW (J:Ext w W)=>subset_c S b a G D W (qaa.good.bel F J) (qaa.good.bel E J) hn
 obtain⟨A,c,rfl,X,O⟩:=E.val;obtain⟨U,V,rfl,M,I⟩:=F.val;have N:=World.block_lt_of_cell? w _ L;clear E F
 by_cases m:b.length<a.length
 .have u:=Hd (show qge a b=subB b a from by rw[qge,decide_eq_true m,Bool.true_and]);have z:=decide_eq_true (show(b.length:Int)<(a.length:Int) by omega)
  go_enter Tryz.func218,Tryz.ntmps218
  go_wp2_with fail
  refine(d _ bel).mono ?_;rintro e Y ⟨rfl,h1⟩
  go_wp2_with fail
  go_ret;exact⟨by rw[u.out];rfl,bel⟩
 have u:=Hd (show qge a b=false from by rw[qge,decide_eq_false m,Bool.false_and]);have z:=decide_eq_false (show ¬ (b.length:Int)<(a.length:Int) by omega)
 go_enter Tryz.func218,Tryz.ntmps218
 go_wp2_with fail
 go_ret;exact⟨by rw[u.out];rfl,bel⟩
theorem eg217:∀args w,(callFunc 217 args).run Tryz.prog w = .ok (.enter 217 args) w:=enters_of Tryz.func217 (by kernel_rfl) rfl
theorem least1_c (S:Nat->Prop) (a:List Lb) (l:List (List Lb)) (u D:Value) (B:Nat) (w:World) (F:qaa S w a [u]) (I:RSl qaa 1 S w l [D]) (hn:a.length<=4611686018427387903) (M:w.cell? ⟨B,0,none⟩=some D) :
  Calls Tryz.prog 217 #[u,.pointer (some ⟨B,0,none⟩)] w λe w'=>e = .returned (.bool (l.any (qge a)))/\Ext w w':=by
 have m:=λE W (L:Ext w W) (G:W.cell? ⟨E,0,none⟩=some u)=>conPLbs (qge a) S W l D ((RSl.good qaa.good).bel I L) 218 #[.pointer (some ⟨E,0,none⟩)] eg218
  (λx X cs W' d hr=>by
   obtain⟨A,c,rfl,_⟩:=id hr
   exact least11_c S a x u _ E W' (qaa.good.bel F (L.trans' d)) hr hn (Ext.keep d G))
 obtain⟨A,c,rfl,hc,U⟩:=F.val;obtain⟨V,Y,rfl,N,J⟩:=I.val;have O:=World.block_lt_of_cell? w _ M;clear F I
 go_enter Tryz.func217,Tryz.ntmps217
 go_wp2_with fail
 refine(m _ _ bel (by go_simp)).mono ?_;rintro e w1 ⟨rfl,h1⟩
 go_wp2_with fail
 go_ret;exact⟨rfl,bel⟩
end
section

section
variable {α:Type} (eq:α->α->Bool)
def qc6:α->List α->List α
 | _,[]=>[]
 | p,y :: ys=>if eq y p then qc6 y ys else y :: qc6 y ys
def qa2:List α->List α
 | []=>[]
 | x :: xs=>x :: qc6 eq x xs
theorem qsx (z:α):∀(xs:List α) (p:α),qc6 eq p (xs++[z])=qc6 eq p xs++(if eq z ((p :: xs).getLast (by simp)) then [] else [z])
 | [],p=>by cases h:eq z p <;> simp[qc6,h]
 | y :: ys,p=>by
  have h:=qsx z ys y;rw[List.cons_append,qc6,qc6,h,List.getLast_cons_cons]
  split <;> rfl
theorem qtm:∀(xs:List α) (p:α),(qc6 eq p xs).length<=xs.length
 | [],p=>Nat.le_refl _
 | y :: ys,p=>by
  have:=qtm ys y;rw[qc6]
  split <;> simp only[List.length_cons] <;> omega
theorem ql6:∀xs:List α,(qa2 eq xs).length<=xs.length
 | []=>Nat.le_refl _
 | x :: xs=>by have:=qtm eq xs x;rw[qa2,List.length_cons,List.length_cons];omega
theorem qj2 (l:List α) (k:Nat) (A:1<=k) (m:k<l.length):qa2 eq (l.take (k+1))=if eq l[k] l[k-1] then qa2 eq (l.take k) else qa2 eq (l.take k)++[l[k]]:=by
 rw[List.take_succ_eq_append_getElem m]
 obtain⟨p,xs,c⟩:∃p xs,l.take k=p :: xs:=by
  cases h:l.take k with
  | nil=>have:=congrArg List.length h;rw[List.length_take,List.length_nil]at this;omega
  | cons p xs=>exact⟨p,xs,rfl⟩
 have u:(p :: xs).getLast (by simp)=l[k-1]:=by
  have d:(p :: xs).length=k:=by rw[<- c,List.length_take];omega
  rw[List.getLast_eq_getElem];simp only[<- c];rw[List.getElem_take]
  congr 1
  rw[List.length_take];omega
 rw[c,List.cons_append,qa2,qsx,u,qa2]
 split <;> simp
theorem qqd:∀(xs:List α) (p x:α),x∈qc6 eq p xs->x∈xs
 | [],_,_,h=>h
 | y :: ys,p,x,h=>by
  rw[qc6]at h
  split at h
  .exact List.mem_cons_of_mem _ (qqd ys y x h)
  rcases List.mem_cons.1 h with rfl | h
  .simp
  exact List.mem_cons_of_mem _ (qqd ys y x h)
theorem qlc:∀(xs:List α) (x:α),x∈qa2 eq xs->x∈xs
 | [],x,h=>h
 | y :: ys,x,h=>by
  rw[qa2]at h
  rcases List.mem_cons.1 h with rfl | h
  .simp
  exact List.mem_cons_of_mem _ (qqd eq ys y x h)
def qb5 (l:List α) (m:Nat):List α:=qa2 eq (l.take m)++l.drop (qa2 eq (l.take m)).length
theorem qcd (l:List α) (m:Nat):(qb5 eq l m).length=l.length:=by
 have h:=ql6 eq (l.take m);rw[List.length_take]at h;rw[qb5,List.length_append,List.length_drop];omega
theorem qim (l:List α) (m j:Nat) (c:(qa2 eq (l.take m)).length<=j) (d:j<l.length):(qb5 eq l m)[j]'(by rw[qcd];exact d)=l[j]:=by
 unfold qb5;rw[List.getElem_append_right c];simp only[List.getElem_drop]
 congr 1
 omega
theorem qmt (l:List α) (m:Nat) (c:1<=m) (d:m<l.length) (u:eq l[m] l[m-1]=true):qb5 eq l (m+1)=qb5 eq l m/\qa2 eq (l.take (m+1))=qa2 eq (l.take m):=by
 have h:=qj2 eq l m c d;rw[if_pos u]at h;exact⟨by rw[qb5,h];rfl,h⟩
theorem qm7 (l:List α) (m:Nat) (c:1<=m) (d:m<l.length) (u:eq l[m] l[m-1]=false) (hi:(qa2 eq (l.take m)).length<l.length) :
  qb5 eq l (m+1)=(qb5 eq l m).set (qa2 eq (l.take m)).length l[m]/\qa2 eq (l.take (m+1))=qa2 eq (l.take m)++[l[m]]:=by
 have h:=qj2 eq l m c d;rw[if_neg (by rw[u];decide)]at h;refine⟨?_,h⟩;rw[qb5,qb5,h,List.set_append_right _ _ (Nat.le_refl _),Nat.sub_self,List.drop_eq_getElem_cons hi,List.set_cons_zero,List.length_append,List.length_singleton,List.append_assoc];rfl
end
theorem qxc {w:World} {base size n m c g:Nat} {e:TypeId} {xs:List Value} (h:w.ownsRow base e size (.slice (some ⟨g,0,none⟩) n c) n xs) (M:m<=n):w.ownsRow base e size (.slice (some ⟨g,0,none⟩) m c) m (xs.take (m*size)):=by
 have F:m*size<=n*size:=Nat.mul_le_mul_right _ M
 rcases h.2 with⟨u,_⟩ | ⟨N,G,A,u,I,L,J,D,E,d⟩
 .simp at u
 simp only[Value.slice.injEq,Option.some.injEq,Addr.mk.injEq,and_true,true_and]at u;obtain⟨rfl,rfl⟩:=u;refine⟨by rw[List.length_take,h.1];omega,.inr ⟨g,c,A,rfl,I,L,by omega,D,E,?_⟩⟩;rw[<- d,List.take_take,Nat.min_eq_left F]
theorem qsf {base size n c g:Nat} {e:TypeId} {xs:List Value}:∀(d:List Value) (o:Nat) (w:World),n*size<=o->w.ownsRow base e size (.slice (some ⟨g,0,none⟩) n c) n xs->(w.setCells g o d).ownsRow base e size (.slice (some ⟨g,0,none⟩) n c) n xs/\Bt (λb=>b=g) w (w.setCells g o d)
 | [],o,w,_,h=>⟨h,Bt.refl _ _⟩
 | v :: d,o,w,ho,h=>by
  have m:=(h.stored o v).1;rw[List.set_eq_of_length_le (by rw[h.1];exact ho)]at m;obtain⟨u,A⟩:=qsf d (o+1) _ (by omega) m;exact⟨u,((Bt.refl (λb=>b=g) w).set (p:=⟨g,o,none⟩) (.inr rfl) v).trans A⟩
theorem Flat.take {α:Type} {R:Rdr α} {k:Nat} {S:Nat->Prop} {w:World}:∀{xs:List α} {cs:List Value} (m:Nat),Flat R k S w xs cs->Flat R k S w (xs.take m) (cs.take (m*k))
 | xs,cs,0,h=>by simp[Flat]
 | [],cs,m+1,h=>by rw[show cs=[] from h];simp[Flat]
 | x :: xs,cs,m+1,⟨c1,c2,h1,h2,h3,h4⟩=>by
  refine⟨c1,c2.take (m*k),?_,h2,h3,Flat.take m h4⟩;rw[h1,List.take_append,h2,List.take_of_length_le (by rw[h2,Nat.add_mul];omega)]
  congr 2
  rw[Nat.add_mul];omega
section
variable {α:Type} {R:Rdr α} {k:Nat} {e:TypeId} {base:Nat} {T:Nat->Prop} {w:World} {xs:List α}
theorem qab.get1 {g n d:Nat} (h:qab R 1 e base T w xs (.slice (some ⟨g,0,none⟩) n d)) (i:Nat) (hi:i<xs.length) :
  ∃u,w.cell? ⟨g,i,none⟩=some u/\R (λb=>T b/\b≠g) w xs[i] [u]/\w.frozen? ⟨g,i,none⟩=false:=by
 obtain⟨news,m,A⟩:=h
 have hn:n=xs.length:=by
  rcases m.2 with⟨c,_⟩ | ⟨L,E,G,c,_⟩
  .simp at c
  simp at c;exact c.2.1
 subst hn;rw[qgd]at A;obtain⟨D,F,I,J⟩:=A.at i hi
 obtain⟨u,rfl⟩:∃u,D=[u]:=by
  match D,F with
  | [u],_=>exact⟨u,rfl⟩
 have:=J 0 (by decide);refine⟨u,?_,I,m.frozenAt i⟩;rw[m.cellAt i (by omega)];simpa using this
theorem qab.put1 {g n c:Nat} (A:Good R 1) (h:qab R 1 e base T w xs (.slice (some ⟨g,0,none⟩) n c)) (hn:n=xs.length) (i:Nat) (u:Value) (d:α) (hi:i<xs.length) (E:R (λb=>T b/\b≠g) w d [u]) :
  qab R 1 e base T (w.setCell ⟨g,i,none⟩ u) (xs.set i d) (.slice (some ⟨g,0,none⟩) n c):=by
 subst hn
 have:=qab.put A h i 0 u d (by decide) hi λcs m=>by
  have D:=A.len m
  match cs,D with
  | [a],_=>exact E
 simpa using this
theorem qab.cut {g n c:Nat} (J:Good R k) (h:qab R k e base T w xs (.slice (some ⟨g,0,none⟩) n c)) (hn:n=xs.length) (m:Nat) (D:m<=n) (d:List Value) (o:Nat) (G:m*k<=o) :
  qab R k e base T (w.setCells g o d) (xs.take m) (.slice (some ⟨g,0,none⟩) m c)/\Bt (λb=>b=g) w (w.setCells g o d):=by
 subst hn;obtain⟨news,L,u⟩:=h;rw[qgd]at u;obtain⟨I,A⟩:=qsf d o w G (qxc L D);refine⟨⟨news.take (m*k),?_,?_⟩,A⟩
 .rw [List.length_take,Nat.min_eq_left D];exact I
 rw[qgd];exact(u.take m).imp λx _ cs F=>J.move F (A.kp λb _ E=>E.2)
end
def qct (a b:List Lb):Bool:=decide (qez a b=0)
def qcm (l:List (List Lb)):List (List Lb):=qa2 qct l
theorem qoq (base:Nat) (T:Nat->Prop) (l:List (List Lb)) (v:Value) (w:World) (D:qab qaa 1 22 base T w l v) (aA:l.length<=1000000000) :
  Calls Tryz.prog 144 #[v,.func (.func 145) #[] #[]] w λe w'=>∃A c,e = .returned (.slice A (qcm l).length c)/\qab qaa 1 22 base T w' (qcm l) (.slice A (qcm l).length c)/\Bt (λb=>v.ownBlock=some b) w w':=by
 by_cases h2:l.length<2
 .have hc:Hid (qcm l=l):=by
   show _=_
   match l,h2 with
   | [],_=>rfl
   | [x],_=>rfl
  obtain⟨A,c,rfl,_,_⟩:=(D.sl qaa.good (by decide)).val;have HO:=Hd D;clear D
  go_enter Tryz.func144,Tryz.ntmps144
  go_wp2_with fail
  go_ret;rw[hc.out];exact⟨A,c,rfl,HO.out,Bt.refl _ _⟩
 obtain⟨g,G,rfl⟩:∃g G,v = .slice (some ⟨g,0,none⟩) l.length G:=by
  obtain⟨news,h1,_⟩:=D;exact Joins.ownsRow_form h1 (by omega)
 have az:l.length<=G/\G<=9223372036854775807:=by
  obtain⟨A,c,he,h3,h4⟩:=(D.sl qaa.good (by decide)).val;injection he with _ _ he
  exact⟨by omega,by omega⟩
 have hZ:(λb=>(Value.slice (some ⟨g,0,none⟩) l.length G).ownBlock=some b)=λb=>b=g:=by funext b;simp[Value.ownBlock,eq_comm]
 rw[hZ];have HO:=Hd D;clear D hZ
 go_enter Tryz.func144,Tryz.ntmps144
 go_wp2_with fail
 go_loopw [5] (λi wr=>∃k:Nat,1<=k/\k<=l.length/\i = .int .i64 k/\Ext w wr/\Hid (qcm (l.take k)=l.take k)) (λi _=>l.length-(intOf i).toNat)
 case atStart=>exact⟨1,Nat.le_refl _,by omega,rfl,Ext.refl _,by
  show _=_
  cases l with
  | nil=>simp at h2
  | cons x xs=>simp[qcm,qa2,qc6]⟩
 obtain⟨k,aw,hk,rfl,hE,hf⟩:=hrel
 by_cases ag:k<l.length
 .have hO:=HO.out.ext qaa.good hE;obtain⟨u1,a1,N,_⟩:=hO.get1 k ag;obtain⟨u2,a2,U,_⟩:=hO.get1 (k-1) (by omega);have I:=λX=>same_c (λ_=>True) l[k] l[k-1] u1 u2 (qam wr X) (qaa.good.bel (qaa.good.mono N λ_ _ _=>trivial) (qa7 wr X)) (qaa.good.bel (qaa.good.mono U λ_ _ _=>trivial) (qa7 wr X))
  obtain⟨A1,c1,rfl,_,_⟩:=N.val;obtain⟨A2,c2,rfl,_,_⟩:=U.val;have L:=qj2 qct l k aw ag;have aH:(0:Int)<=(k:Int)-1:=by omega
  have aI:((k:Int)-1).toNat=k-1:=by omega
  have aF:(k:Int)-1<(l.length:Int):=by omega
  by_cases he:qct l[k] l[k-1]=true
  .have hs:∀X,Calls Tryz.prog 145 #[.slice A1 l[k].length c1,.slice A2 l[k-1].length c2] (qam wr X) λe w'=>e = .returned (.bool true)/\qag (qam wr X) w':=λX=>by have:=I X;rwa [show decide (qez l[k] l[k-1]=0)=true from he]at this
   rw[if_pos he]at L;have ac:=Hd L;have ao:=Hd hO;clear I L hO N U
   go_wp2_with fail
   (refine qap ?_;(repeat (first | go_big_quiet_step ((go_at_call 145;exact qaq (hs _))) | quiet_step ((go_at_call 145;exact qaq (hs _)))));refine wpQuiet_nil ?_)
   intro w2 aa;have ay:=Hd (ao.out.ext qaa.good aa);have au:=hE.trans' aa;clear hs aa ao a1 a2
   go_wp2_with fail
   go_loopw [5,7] (λvi v2 al=>∃d i:Nat,1<=d/\k+d<=l.length/\vi = .int .i64 (i:Nat)/\v2 = .int .i64 (d:Nat)/\i<k+d/\Hid ((qa2 qct (l.take (k+d))).length=i/\qab qaa 1 22 base T al (qb5 qct l (k+d)) (.slice (some ⟨g,0,none⟩) l.length G))/\Bt (λb=>b=g) w al) (λ_ v2 _=>l.length-k-(intOf v2).toNat)
   case atStart =>
    have ak:qa2 qct (l.take k)=l.take k:=hf.out;have hY:qb5 qct l (k+1)=l:=by rw[qb5,ac.out,ak,List.length_take,Nat.min_eq_left hk,List.take_append_drop]
    refine⟨1,k,Nat.le_refl _,by omega,rfl,rfl,by omega,⟨by rw[ac.out,ak,List.length_take,Nat.min_eq_left hk],by rw[hY];exact ay.out⟩,au.bt⟩
   obtain⟨d,i,aC,hd,rfl,rfl,hi,hR,hB⟩:=hrel
   by_cases J:k+d<l.length
   .have an:k+(d-1)<l.length:=by omega
    have ad:1<=k+d:=by omega
    have ap:i<l.length:=by omega
    obtain⟨E,m⟩:=hR.out;obtain⟨u1,a1,N,_⟩:=m.get1 (k+d) (by rw[qcd];exact J);obtain⟨u2,a2,U,_⟩:=m.get1 (k+(d-1)) (by rw[qcd];omega);rw[qim qct l (k+d) (k+d) (by omega) J]at N;rw[qim qct l (k+d) (k+(d-1)) (by omega) an]at U;have I:=λX=>same_c (λ_=>True) l[k+d] l[k+(d-1)] u1 u2 (qam wr X) (qaa.good.bel (qaa.good.mono N λ_ _ _=>trivial) (qa7 wr X)) (qaa.good.bel (qaa.good.mono U λ_ _ _=>trivial) (qa7 wr X))
    have ah:qct l[k+d] l[k+(d-1)]=qct l[k+d] (l[k+d-1]'(by omega)):=by
     have hx:k+(d-1)=k+d-1:=by omega
     simp only[hx]
    have ab:=λh=>qmt qct l (k+d) ad J h
    have Y:=λh=>qm7 qct l (k+d) ad J h (by rw[E];exact ap)
    rw[<- ah]at ab Y;obtain⟨A3,c3,rfl,_,_⟩:=N.val;obtain⟨A4,c4,rfl,_,_⟩:=U.val;have aB:(0:Int)<=(d:Int)-1:=by omega
    have aD:((d:Int)-1).toNat=d-1:=by omega
    by_cases V:qct l[k+d] l[k+(d-1)]=true
    .have hs:∀X,Calls Tryz.prog 145 #[.slice A3 l[k+d].length c3,.slice A4 l[k+(d-1)].length c4] (qam wr X) λe w'=>e = .returned (.bool true)/\qag (qam wr X) w':=λX=>by have:=I X;rwa [show decide (qez l[k+d] l[k+(d-1)]=0)=true from V]at this
     have O:=Hd (ab V);have ai:=Hd m;have M:=Hd E;clear I m N U ab Y ah E hR
     go_wp2_with fail
     (refine qap ?_;(repeat (first | go_big_quiet_step ((go_at_call 145;exact qaq (hs _))) | quiet_step ((go_at_call 145;exact qaq (hs _)))));refine wpQuiet_nil ?_)
     intro w5 F
     go_wp2_with fail
     go_roundw
     case rel =>
      refine⟨d+1,i,by omega,by omega,rfl,by go_num,by omega,⟨?_,?_⟩,hB.ext F⟩
      .rw [show k+(d+1)=k+d+1 from by omega,O.out.2];exact M.out
      rw[show k+(d+1)=k+d+1 from by omega,O.out.1];exact ai.out.ext qaa.good F
     simp[intOf];omega
    have hs:∀X,Calls Tryz.prog 145 #[.slice A3 l[k+d].length c3,.slice A4 l[k+(d-1)].length c4] (qam wr X) λe w'=>e = .returned (.bool false)/\qag (qam wr X) w':=λX=>by have:=I X;rwa [show decide (qez l[k+d] l[k+(d-1)]=0)=false from eq_false_of_ne_true V]at this
    have ae:=Hd (Y (eq_false_of_ne_true V));obtain⟨u6,b6,_,f6⟩:=m.get1 i (by rw[qcd];omega);have ai:=Hd m;have M:=Hd E;have av:=Hd N;clear I m N U ab Y ah E hR
    go_wp2_with fail
    (refine qap ?_;(repeat (first | go_big_quiet_step ((go_at_call 145;exact qaq (hs _))) | quiet_step ((go_at_call 145;exact qaq (hs _)))));refine wpQuiet_nil ?_)
    intro w5 F;have a5:=Ext.keep F a1;have b5:=Ext.keep F b6;have f5:=qdy F (World.block_lt_of_cell? _ _ b6) f6;clear a1 a2 b6 f6 hs
    go_wp2_with fail
    go_roundw
    case rel =>
     have af:=qab.put1 qaa.good (ai.out.ext qaa.good F) (by rw[qcd]) i (.slice A3 l[k+d].length c3) l[k+d] (by rw[qcd];omega) (qaa.good.bel av.out F);refine⟨d+1,i+1,by omega,by omega,by go_num,by go_num,by omega,⟨?_,?_⟩,(hB.ext F).set (.inr rfl) _⟩
     .rw [show k+(d+1)=k+d+1 from by omega,ae.out.2,List.length_append,M.out];rfl
     rw[show k+(d+1)=k+d+1 from by omega,ae.out.1,M.out];exact af
    simp[intOf];omega
   obtain⟨E,m⟩:=hR.out;have aj:k+d=l.length:=by omega
   rw[aj,List.take_length]at E;rw[aj]at m;have aE:i<l.length:=by omega
   have aG:=Lib.run_clear_slice (P:=Tryz.prog) wr 30 22 0 (.slice none 0 0) Tryz.underlying30 (λ_=>by kernel_rfl) rfl rfl g i (l.length-i) (G-i) (by omega) (λj hj=>by
    obtain⟨u,h1,_⟩:=m.get1 (i+j) (by rw[qcd];omega)
    rw[h1];rfl) (λj hj=>by
    obtain⟨u,_,_,h1⟩:=m.get1 (i+j) (by rw[qcd];omega)
    exact h1)
   have hcut:=Hd (m.cut qaa.good (by rw[qcd]) i (by omega) (List.replicate (l.length-i) (.slice none 0 0)) i (by omega))
   have aq:Hid (qcm l=(qb5 qct l l.length).take i):=by
    show qa2 qct l=_;rw[qb5,List.take_length,List.take_append_of_le_length (by omega),<- E,List.take_length]
   have M:=Hd E;clear m E hR
   go_wp2_with fail
   go_ret;have am:(qcm l).length=i:=M.out;refine⟨some ⟨g,0,none⟩,G,by rw[am];rfl,?_,hB.trans hcut.out.2⟩;rw[am,aq.out];exact hcut.out.1
  have hs:∀X,Calls Tryz.prog 145 #[.slice A1 l[k].length c1,.slice A2 l[k-1].length c2] (qam wr X) λe w'=>e = .returned (.bool false)/\qag (qam wr X) w':=λX=>by have:=I X;rwa [show decide (qez l[k] l[k-1]=0)=false from eq_false_of_ne_true he]at this
  rw[if_neg he]at L;have ac:=Hd L;clear I L hO N U
  go_wp2_with fail
  (refine qap ?_;(repeat (first | go_big_quiet_step ((go_at_call 145;exact qaq (hs _))) | quiet_step ((go_at_call 145;exact qaq (hs _)))));refine wpQuiet_nil ?_)
  intro w2 aa
  go_wp2_with fail
  go_roundw
  case rel =>
   refine⟨k+1,by omega,by omega,by go_num,bel,?_⟩;show qa2 qct _=_;rw[ac.out,show qa2 qct (l.take k)=l.take k from hf.out,List.take_succ_eq_append_getElem ag]
  simp[intOf];omega
 have ax:Hid (qcm l=l):=by
  show _=_;have:=hf.out
  rwa [List.take_of_length_le (by omega)]at this
 go_wp2_with fail
 go_ret;rw[ax.out];exact⟨some ⟨g,0,none⟩,G,rfl,HO.out.ext qaa.good hE,hE.bt⟩
end
section
open Go.Shelf
def SeqG {α:Type} (n:Nat) (P:Program) (g:Nat) (lb:Array Value) (encs:α->Array Value) (K:World->World->Prop) (G:List α->α->World->Prop) (S Sp:List α->Prop) (w:World):Prop :=
 ∀(l:Nat) (J Jx:List α->World->Prop) (W:World),Ext w W->(∀pre A B,J pre A->Ext A B->J pre B)->(∀pre A B,Jx pre A->Ext A B->Jx pre B) ->
  (∀pre x A,J pre A->G pre x A->YieldAt Fence.wide (n-1) P l (encs x) A λe B =>
   (e = .returned (.bool true)/\J (pre++[x]) B/\K A B)\/(e = .returned (.bool false)/\Jx (pre++[x]) B)) ->
  J [] W ->
  CallsIn Fence.wide n P g (#[.func (.yield l) #[] #[]]++lb) W λe B=>(∃v,e = .returned v)/\((∃ys,S ys/\J ys B)\/(∃pre,Sp pre/\Jx pre B))
theorem qq4 {β:Type} {B:Nat} {I:β->World->Prop} (h:OwnFrom B I) {s:β} {X Y:World} (hs:I s X) (c:Ext X Y):I s Y:=h s X Y none hs (qxu c) λr e=>by cases e
theorem qq0 {α:Type} {n:Nat} {P:Program} {g:Operand} {ps:Array Tmp} {assign body:Code} {Q:Exit->Act->World->Prop} {a:Act} {w:World}
  {gf:Nat} {lb:Array Value} (h1:1<=n) (hg:a.eval g = .func (.func gf) #[] lb) (eg:∀args w,(callFunc gf args).run P w = .ok (.enter gf args) w)
  {F:α->Array Value} {K:World->World->Prop} {G:List α->α->World->Prop} {S Sp:List α->Prop} (ah:SeqG (n-1) P gf lb F K G S Sp w) (aw:∀x,(F x).size=ps.size)
  (ad:∀{A B C:World},K A B->K B C->K A C) (al:∀(W:World) (l:Nat) (o o':Obj),w.heap.size<=l->W.heap[l]? = some o->o.isCells=false->K W (W.putObj l o'))
  (I:List α->World->Prop) (Ix:Code->List α->World->Prop) (hI:OwnFrom w.heap.size I) (af:∀c,OwnFrom w.heap.size (Ix c)) (h0:I [] w) (Ax:List α->α->Act->World->Prop) (ao:∀pre x a',OwnFrom w.heap.size (λ(_:Unit) W=>Ax pre x a' W))
  (M:∀(l:Nat) (pre:List α) (x:α) (W:World) (Kc:Act->World->Prop),I pre W->G pre x W->(∀a' W',KeepsFrom w.heap.size W W'->K W W'->I pre W'->Ax pre x a' W'->Kc a' W') ->
   assign.wpIn (Fence.wide.inRound l) (n-1-1) P (Exit.then Kc (λ_ _ _=>False)) { tmps:=(ps.zip (F x)).foldl (λt (p,v)=>t.setIfInBounds p v) a.tmps,defers:=[] } W)
  (hbody:∀(l:Nat) (pre:List α) (x:α) (a':Act) (W:World),w.heap.size<=l->(∃r,W.heap[l]? = some (.loop r))->I pre W->Ax pre x a' W->body.wpIn (Fence.wide.inRound l) (n-1-1) P (ownPostG w.heap.size K I Ix (pre++[x]) W) a' W)
  (hdone:∀(D:Nat) (xs:List α) (W:World),w.heap.size<=D->S xs->I xs W->W.heap[D]? = some (.deferred (some []))->Q .normal { a with defers:={ target:=.collected D,args:=#[] } :: a.defers } W)
  (hstop:∀(D:Nat) (c:Code) (pre:List α) (W:World),w.heap.size<=D->Sp pre->Ix c pre W->W.heap[D]? = some (.deferred (some []))->c.wpIn Fence.wide n P Q { a with defers:={ target:=.collected D,args:=#[] } :: a.defers } W) :
  (Code.rangeFunc g ps assign body).wpIn Fence.wide n P Q a w:=by
 refine wpIn_rangeFunc λfn au=>?_
 rw[show Fence.wide.round=none from rfl];obtain⟨D,hD⟩:∃D,D=w.heap.size:=⟨_,rfl⟩
 obtain⟨L,hL⟩:∃L,L=D+1:=⟨_,rfl⟩
 obtain⟨R,O⟩:∃R:LoopState->Option Code->Loop,R=λst pe=>{ state:=st,pending:=pe,fn,tmps:=a.tmps,params:=ps,assign,body,defers:=D }:=⟨_,rfl⟩
 obtain⟨V,hV⟩:∃V,V=(w.alloc (.deferred (some []))).alloc (.loop (R .ready none)):=⟨_,rfl⟩
 have ab:Ext w V:=by rw[hV];exact((Ext.refl w).alloc _).alloc _
 have aq:V.heap[L]? = some (.loop (R .ready none)):=by
  have h:=World.alloc_heap_new (w.alloc (.deferred (some []))) (.loop (R .ready none));rw[World.size_alloc,<- hD,<- hL]at h;rw[hV];exact h
 have aA:V.heap[D]? = some (.deferred (some [])):=by
  rw[hV,hD];exact(Below.heap_alloc _ _ _ (by simp)).trans (World.alloc_heap_new w _)
 have u:∀{X Y:World} {o1 o2:Obj},X.heap[L]? = some o1->X.heap[D]? = some o2->KeepsFrom w.heap.size X Y->o1.isCells=false->o2.isCells=false->Y.heap[L]? = some o1/\Y.heap[D]? = some o2 :=
  λm N hk c1 c2=>⟨hk.same _ _ (by omega) m c1,hk.same _ _ (by omega) N c2⟩
 have turn:∀{X:World} {o1 o2:Obj} (o3:Obj),X.heap[L]? = some o1->X.heap[D]? = some o2->(X.putObj L o3).heap[L]? = some o3/\(X.putObj L o3).heap[D]? = some o2 :=
  λo3 m N=>⟨World.putObj_heap_same (Array.getElem?_eq_some_iff.1 m).1,(World.putObj_heap_other (by omega)).trans N⟩
 have ac:∀{X Y:World},Ext X Y->KeepsFrom w.heap.size X Y:=λh=>qfu h _
 refine⟨L,[{ target:=.collected D,args:=#[] }],V,{ target:=.fn (.func gf) lb,args:=#[.func (.yield L) #[] #[]] },V,gf,#[.func (.yield L) #[] #[]]++lb,V,?_,?_,λ_ _=>trivial,?_,λ_=>h1,?_⟩
 .have h:=run_enterLoop_outer (P:=P) (w:=w) fn a.tmps ps assign body;rw[hL,hV,O,hD];exact h
 .simp only[resolve,hg];simp[go_sem]
 .simp [invoke,go_sem,eg]
 have ae:=ah L (λpre W=>I pre W/\W.heap[L]? = some (.loop (R .ready none))/\W.heap[D]? = some (.deferred (some [])))
  (λpre W=>∃c,Ix c pre W/\W.heap[L]? = some (.loop (R .done (some c)))/\W.heap[D]? = some (.deferred (some []))) V ab
  (λpre A B h he=>⟨qq4 hI h.1 he,u h.2.1 h.2.2 (ac he) rfl rfl⟩)
  (λpre A B h he=>by obtain⟨c,m,N,h4⟩:=h;exact⟨c,qq4 (af c) m he,u N h4 (ac he) rfl rfl⟩)
  (λpre x A hJ ay=>?_) ⟨qq4 hI h0 ab,aq,aA⟩
 .-- behind the iterator
  refine ae.mono ?_;rintro e W ⟨⟨v,rfl⟩,⟨ys,hS,hi,m,N⟩ | ⟨pre,ax,c,hi,m,N⟩⟩
  .refine ⟨none,W.putObj L (.loop { R .ready none with state:=.exhausted }),?_,?_⟩
   .have h:=run_endLoop (P:=P) m (by rw[O];simp);rw[O]at h ⊢;exact h
   exact hdone D ys _ (by omega) hS (hI.putObj _ hi (by omega) m rfl) (turn _ m N).2
  refine⟨some c,W.putObj L (.loop { R .done (some c)with state:=.exhausted }),?_,?_⟩
  .have h:=run_endLoop (P:=P) m (by rw[O];simp);rw[O]at h ⊢;exact h
  exact hstop D c pre _ (by omega) ax ((af c).putObj _ hi (by omega) m rfl) (turn _ m N).2
 -- a round
 obtain⟨hi,m,N⟩:=hJ;have hy:=run_yield (P:=P) (args:=F x) m (by rw[O];exact aw x);rw[O]at hy;refine⟨fn,_,assign,body,hy,roundIn_of_wpIn au (M L pre x A _ hi ay λa1 B ap av am an=>?_)⟩;clear hy;obtain⟨h4,h5⟩:=u m N ap rfl rfl;obtain⟨C,hC⟩:∃C,C=B.putObj L (.loop { R .ready none with state:=.busy }):=⟨_,rfl⟩
 have aa:=turn (.loop { R .ready none with state:=.busy }) h4 h5;have ai:=hI.putObj (.loop { R .ready none with state:=.busy }) am (by omega) h4 rfl;have aj:=(ao pre x a1).putObj (s:=()) (.loop { R .ready none with state:=.busy }) an (by omega) h4 rfl;have ak:=al B L _ (.loop { R .ready none with state:=.busy }) (by omega) h4 rfl;rw[<- hC]at aa ai aj ak;refine⟨C,?_,wpIn_mono (hbody L pre x a1 C (by omega) ⟨_,aa.1⟩ ai aj) ?_⟩
 .have h:=run_beginRound (P:=P) h4 (by rw[O]);rw[hC];rw[O]at h ⊢;exact h
 have J:∀(d:Option Code) (E:World),KeepsFrom w.heap.size C E->∃o,(Instr.endRound L d).run P E = .ok (.bool d.isNone) (E.putObj L (.loop (R (if d.isNone then .ready else .done) d)))/\E.heap[L]? = some o/\o.isCells=false /\
   (E.putObj L (.loop (R (if d.isNone then .ready else .done) d))).heap[L]? = some (.loop (R (if d.isNone then .ready else .done) d))/\(E.putObj L (.loop (R (if d.isNone then .ready else .done) d))).heap[D]? = some (.deferred (some [])):=λd E hk=>by
  obtain⟨h8,h9⟩:=u aa.1 aa.2 hk rfl rfl;have h:=run_endRound (P:=P) d h8;refine⟨_,?_,h8,rfl,turn _ h8 h9⟩;rw[O]at h ⊢;exact h
 have leave:∀(c:Code) (E:World),KeepsFrom w.heap.size C E->Ix c (pre++[x]) E->∃r E',(Instr.endRound L (some c)).run P E = .ok r E'/\((Ending.returned r = .returned (.bool true)/\(I (pre++[x]) E'/\E'.heap[L]? = some (.loop (R .ready none))/\E'.heap[D]? = some (.deferred (some [])))/\K A E') \/
   (Ending.returned r = .returned (.bool false)/\∃c,Ix c (pre++[x]) E'/\E'.heap[L]? = some (.loop (R .done (some c)))/\E'.heap[D]? = some (.deferred (some [])))):=λc E hk hx=>by
  obtain⟨o,r1,r2,r3,r4⟩:=J (some c) E hk;exact⟨_,_,r1,.inr ⟨rfl,c,(af c).putObj _ hx (by omega) r2 r3,r4⟩⟩
 rintro e a3 E U
 cases e with
 | normal =>
  obtain⟨hk,ag,az⟩:=U;obtain⟨o,r1,r2,r3,r4⟩:=J none E hk;exact⟨_,_,r1,.inl ⟨rfl,⟨hI.putObj _ az (by omega) r2 r3,r4⟩,ad av (ad (ad ak ag) (al E L _ _ (by omega) r2 r3))⟩⟩
 | ret=>exact leave .ret E U.1 U.2
 | exit id=>exact leave (.exit id) E U.1 U.2
 | goto t=>exact leave (.goto t) E U.1 U.2
 | panic ch=>exact U.elim
 | outgrown=>exact U.elim
end
section
/- suite.walk and suite.after: walked. -/
open Go.Shelf
attribute [local go_sem] Oper.semAt_some
def qao (s:Sy) (tr:List Lb):List Int:=tr.foldl (λl x=>qd0 s x l) (qa4 s [0])
theorem qk1 (s:Sy) (c:List Lb) (x:Lb):qao s (c++[x])=qd0 s x (qao s c):=by simp[qao]
theorem qk5 (s:Sy) (c:List Lb) (k:Nat) (h:k<c.length):qao s (c.take (k+1))=qd0 s c[k] (qao s (c.take k)):=by rw[List.take_succ_eq_append_getElem h,qk1]
theorem qvq (s:Sy):∀(f i:Nat) (l:List Int),(qbm s f i l).length+qb0 s (qbm s f i l)<=l.length+qb0 s l
 | 0,_,_=>by rw[qbm];exact Nat.le_refl _
 | f+1,i,l=>by
  rw[qbm]
  split
  .exact Nat.le_trans (qvq s f (i+1) _) (qhn s _ l).1
  exact Nat.le_refl _
theorem qkx (s:Sy) (l:List Int):(qa4 s l).length<=l.length+qb0 s l:=by
 rw[qa4,qnw];have:=qvq s (l.length+s.es.length) 0 l;omega
theorem qp4 (s:Sy) (x:Lb) (l:List Int):(qd0 s x l).length<=s.es.length:=Nat.le_trans (qkx s _) (qpi s x l)
theorem qqs (s:Sy) (d:List Lb):(qao s d).length<=s.es.length+1:=by
 rcases List.eq_nil_or_concat d with rfl | ⟨c,x,rfl⟩
 .have m:=qkx s [0];have:=qhe s [0];simp only[List.length_cons,List.length_nil]at m;show(qa4 s [0]).length<=_;omega
 have:=qp4 s x (qao s c);rw[List.concat_eq_append,qk1];omega
def Kc (Zb:Nat->Prop) (n0:Nat) (A B:World):Prop:=A.heap.size<=B.heap.size/\∀k o,A.heap[k]? = some o->¬ Zb k->(o.isCells=true\/k<n0)->B.heap[k]? = some o
theorem kc_t {d:Nat->Prop} {c:Nat} {A B C:World} (h:Kc d c A B) (k:Kc d c B C):Kc d c A C:=⟨Nat.le_trans h.1 k.1,λi o hi u m=>k.2 i o (h.2 i o hi u m) u m⟩
theorem kc_b {E:Nat->Prop} {m:Nat} (W:World) (l:Nat) (o D:Obj) (F:m<=l) (h:W.heap[l]? = some o) (A:o.isCells=false):Kc E m W (W.putObj l D) :=
 ⟨by simp,λk u d _ c=>(World.putObj_heap_other (λe=>by
  subst e;rw[h]at d
  cases d
  rcases c with c | c
  .rw [A]at c;cases c
  omega)).trans d⟩
theorem Kc.of_bt {d:Nat->Prop} {u:Nat} {A B:World} (h:Bt d A B):Kc d u A B:=⟨h.size,λk _ c m _=>(h.block k (Array.getElem?_eq_some_iff.1 c).1 m).trans c⟩
theorem Kc.kp {m S:Nat->Prop} {d:Nat} {A B:World} (h:Kc m d A B) (hS:∀k,S k->k<d/\¬ m k):Kp S A B :=
 ⟨h.1,λk u hs=>by
  obtain⟨o,c⟩:∃o,A.heap[k]? = some o:=⟨_,Array.getElem?_eq_getElem u⟩
  rw[c]
  exact h.2 k o c (hS k hs).2 (.inr (hS k hs).1)⟩
theorem Kc.rown {D:Nat->Prop} {d:Nat} {A B:World} {xs:List Int} {v:Value} (h:Kc D d A B) (F:∀k,D k->k<d) (hr:qab qad 1 3 d (λ_=>False) A xs v):qab qad 1 3 d (λ_=>False) B xs v:=by
 obtain⟨news,⟨L,E⟩,G⟩:=hr;refine⟨news,⟨L,E.imp id ?_⟩,G.imp λx _ cs h=>h⟩;rintro⟨g,m,u,rfl,J,M,c⟩;exact⟨g,m,u,rfl,J,h.2 g _ M (λI=>by have:=F g I;omega) (.inl rfl),c⟩
theorem qno {base B:Nat} {xs:List Int} {v:Value} {β:Type}:OwnFrom B (λ(_:β) W=>qab qad 1 3 base (λ_=>False) W xs v):=by
 intro _ X Y r h L hr;obtain⟨news,E,I⟩:=h;refine⟨news,⟨E.1,E.2.imp id ?_⟩,I.imp λ_ _ _ G=>G⟩;rintro⟨u,d,m,rfl,D,A,c⟩;refine⟨u,d,m,rfl,D,(L.block u (Array.getElem?_eq_some_iff.1 A).1 λe=>?_).trans A,c⟩;obtain⟨_,M,F,J⟩:=hr u e.symm;rw[A]at F
 cases F
 cases J
theorem qns {S:Nat->Prop} (w:World) (x:Int) (c:I64 x) (hS:S w.heap.size):RSl qad 1 S (w.alloc (.cells #[.int .i64 x] 3)) [x] [.slice (some ⟨w.heap.size,0,none⟩) 1 1] :=
 ⟨_,1,rfl,by simp,by decide,.inr ⟨w.heap.size,0,rfl,by simp,hS,⟨[.int .i64 x],rfl,⟨rfl,c⟩,λi v h=>by have:=cell_one_new w (.int .i64 x) 3 i v h;rwa [Addr.add_lit]at this⟩,trivial⟩⟩
def qke (x:Nat×Value):Array Value:=#[.int .i64 (x.1:Int),x.2]
def walkG (s:Sy) (tr:List Lb) (n0:Nat) (pre:List (Nat×Value)) (x:Nat×Value) (A:World):Prop:=x.1=pre.length/\pre.length<=tr.length/\qab qad 1 3 n0 (λ_=>False) A (qao s (tr.take pre.length)) x.2
theorem walk1_in (n:Nat) (hn:1<=n) (Zb S:Nat->Prop) (I:Nat) (s:Sy) (V:qah s) (g:Nat) (d:List Lb) (v:Value) (U Bt l:Nat) (ai:∀k,S k->k<I/\¬ Zb k) (ah:∀k,Zb k->k<I) (J Jx:List (Nat×Value)->World->Prop) (W:World) (aH:I<=W.heap.size)
  (hJ:∀pre A B,J pre A->Ext A B->J pre B)
  (hY:∀pre x A,J pre A->walkG s d I pre x A->YieldAt Fence.wide (n-1) Tryz.prog l (qke x) A λe B =>
   (e = .returned (.bool true)/\J (pre++[x]) B/\Kc Zb I A B)\/(e = .returned (.bool false)/\Jx (pre++[x]) B))
  (hS:qaz S W g s) (ht:qaa S W d [v]) (aq:S U) (ay:S Bt) (af:W.cell? ⟨U,0,none⟩=some (.pointer (some ⟨g,0,none⟩))) (aa:W.cell? ⟨Bt,0,none⟩=some v) (aG:d.length<=4611686018427387903) (h0:J [] W) :
  CallsIn Fence.wide n Tryz.prog 220 #[.func (.yield l) #[] #[],.pointer (some ⟨U,0,none⟩),.pointer (some ⟨Bt,0,none⟩)] W λe W'=>(∃v,e = .returned v) /\
   ((∃ys,ys.length=d.length+1/\J ys W')\/(∃pre,pre.length<=d.length+1/\Jx pre W')):=by
 obtain⟨At,ct,rfl,aC,aE⟩:=ht.val;have u:=λW1 (hW:Ext W W1)=>qnx (λ_=>True) s V g [0] _ _ ((hS.mono λ_ _ _=>trivial).bel (hW.trans' ((Ext.refl W1).alloc _))) (qns W1 0 ⟨by decide,by decide⟩ trivial) (by decide)
 have HY:=Hd hY;have HS:=Hd hS;have HT:=Hd ht;have HJ:=Hd hJ;have au:=Hd ai;have az:=Hd ah;have H0:=Hd h0;clear hY hS ht hJ ai ah h0;refine callsIn_of_wp Tryz.func220 rfl trivial ?_ rfl;simp only[Tryz.ntmps220,List.size_toArray,List.length_cons,List.length_nil,Nat.reduceAdd,Nat.reduceSub,Array.replicate_succ,Array.replicate_zero,List.push_toArray,List.append_toArray,List.nil_append,List.cons_append]
 gi_wp2_with fail
 refine⟨trivial,?_⟩
 gi_at_call 208
 refine(callsIn_wide.2 (u W (Ext.refl _))).mono ?_;rintro e w1 ⟨v1,rfl,M,D⟩;have ad:Ext W w1:=((Ext.refl W).alloc _).trans' D;have aw:=Hd (M.base (base':=I) (by simp;omega));obtain⟨A1,c1,rfl,aF,aD⟩:=(M.sl qad.good (by decide)).val;have ax:=Hd (HJ.out _ _ _ H0.out ad);clear M D u
 gi_wp2_with fail
 gi_loopw [4,5] (λvl i wr=>∃(k:Nat) (A:Option Addr) (c:Nat) (pre:List (Nat×Value)),k<=d.length/\i = .int .i64 k/\pre.length=k/\vl = .slice A (qao s (d.take k)).length c/\qab qad 1 3 I (λ_=>False) wr (qao s (d.take k)) (.slice A (qao s (d.take k)).length c)/\J pre wr/\Kc Zb I W wr) (λ_ i _=>d.length-(intOf i).toNat)
 case atStart=>exact⟨0,A1,c1,[],Nat.zero_le _,rfl,rfl,rfl,aw.out,ax.out,Kc.of_bt ad.bt⟩
 obtain⟨k,A,c,pre,hk,rfl,G,rfl,F,al,hK⟩:=hrel;obtain⟨fn,tmps,assign,body,hy,ap⟩:=HY.out pre (k,.slice A (qao s (d.take k)).length c) wr al ⟨G.symm,by omega,by rw[G];exact F⟩;unfold qke at hy;simp only at hy;have HO:=Hd F;have HP:=Hd G;clear F al G
 gi_wp2
 refine ap.mono ?_;rintro e W3 (⟨rfl,ab,O⟩ | ⟨rfl,ag⟩)
 .have L:=kc_t hK O;have m:=L.kp au.out;have b1:W3.cell? ⟨U,0,none⟩=some (.pointer (some ⟨g,0,none⟩)):=(World.cell?_of_block (a:=⟨U,0,none⟩) (m.block U (World.block_lt_of_cell? W _ af) aq)).trans af;have b2:W3.cell? ⟨Bt,0,none⟩=some (.slice At d.length ct):=(World.cell?_of_block (a:=⟨Bt,0,none⟩) (m.block Bt (World.block_lt_of_cell? W _ aa) ay)).trans aa;have av:=Hd (HS.out.move m);have am:=Hd (qaa.good.move HT.out m);have aA:=Hd (O.rown az.out HO.out);have ak:=Hd ab;have aj:=Hd L;clear ab L m O hK
  by_cases ae:k<d.length
  .obtain ⟨b,N,cs,hA,hb,hT,hl,hr,E⟩:=am.out.get k ae;obtain rfl:=hA;obtain⟨ig,vx,rfl,aB⟩:=id hr;obtain⟨t0,t1⟩:=g2 E;have ac:=λX (hX:Ext W3 X)=>(qsg (λ_=>True) s V g (qao s (d.take k)) d[k] _ vx X ((av.out.mono λ_ _ _=>trivial).bel hX) ((RSl.good qad.good).bel ((RSl.good qad.good).mono (aA.out.sl qad.good (by decide)) λ_ _ _=>trivial) hX) (RLb.good.bel (RLb.good.mono hr λ_ _ _=>trivial) hX) (by have:=qqs s (d.take k);have:=V.2.2.2.1;omega)).mono λe w' h=>qhf.at h (b':=I) (by have:=hX.size;have:=aj.out.1;omega)
   have Y:=Hd (qk5 s d k ae);clear E hl hr aB hT
   gi_wp2_with fail
   refine wpIn_wide.2 ?_
   go_region_held3 (λW=>W.cell? ⟨U,0,none⟩=some (.pointer (some ⟨g,0,none⟩))/\W.cell? ⟨Bt,0,none⟩=some (.slice (some ⟨b,N,none⟩) d.length ct)/\W.cell? ⟨b,N+k*2,none⟩=some (.int .i64 d[k].g)/\W.cell? ⟨b,N+k*2+1,none⟩=some vx)
    (first | (refine⟨?_,?_,?_,?_⟩ <;> go_simp <;> done) | exact Ext.k4 D (by assumption) | exact Ext.k4 (qag.ext D) (by assumption) | exact Ext.k4 ((Ext.refl _).alloc _) (by assumption))
    (first | (go_at_call 221;refine(ac _ bel).mono ?_;rintro e w4 ⟨A4,c4,rfl,an,D⟩))
   gi_wp2_with fail
   go_roundw
   case rel =>
    refine⟨k+1,A4,c4,pre++[(k,.slice A (qao s (d.take k)).length c)],by omega,by go_num,by simp[HP.out],?_,?_,HJ.out _ _ _ ak.out bel,kc_t aj.out (Kc.of_bt (Ext.bt bel))⟩
    .rw [Y.out]
    rw[Y.out];exact an.ext qad.good bel
   simp[intOf];omega
  have ao:Hid (k=d.length):=by show _=_;omega
  gi_wp2
  go_end0
  exact⟨⟨_,rfl⟩,.inl ⟨_,by simp[HP.out,ao.out],ak.out⟩⟩
 gi_wp2
 go_end0
 exact⟨⟨_,rfl⟩,.inr ⟨_,by simp[HP.out];omega,ag⟩⟩
theorem qom (n:Nat) (p:Option Addr) (A:Option Addr) (m c:Nat) (w:World) :
  CallsIn Fence.wide n Tryz.prog 150 #[.pointer p,.slice A m c] w λe w'=>e = .returned (.func (.func 220) #[] #[.pointer (some ⟨w.heap.size,0,none⟩),.pointer (some ⟨w.heap.size+1,0,none⟩)]) /\
   w'=(w.alloc (.cells #[.pointer p] 111)).alloc (.cells #[.slice A m c] 22):=by
 refine callsIn_wide.2 ?_
 go_enter Tryz.func150,Tryz.ntmps150
 go_wp2_with fail
 go_ret;exact⟨rfl,rfl⟩
theorem qov (n:Nat) (hn:1<=n) (m S:Nat->Prop) (s:Sy) (M:qah s) (g:Nat) (c:List Lb) (v:Value) (u Bt:Nat) (w:World) (A:∀k,S k->k<w.heap.size/\¬ m k) (E:∀k,m k->k<w.heap.size)
  (hS:qaz S w g s) (O:qaa S w c [v]) (F:S u) (D:S Bt) (L:w.cell? ⟨u,0,none⟩=some (.pointer (some ⟨g,0,none⟩))) (G:w.cell? ⟨Bt,0,none⟩=some v) (I:c.length<=4611686018427387903) :
  SeqG n Tryz.prog 220 #[.pointer (some ⟨u,0,none⟩),.pointer (some ⟨Bt,0,none⟩)] qke (Kc m w.heap.size) (walkG s c w.heap.size) (λys=>ys.length=c.length+1) (λpre=>pre.length<=c.length+1) w:=λl J Y W d V X U N =>
 walk1_in n hn m S w.heap.size s M g c v u Bt l A E J Y W d.size V U (hS.bel d) (qaa.good.bel O d) F D (Ext.keep d L) (Ext.keep d G) I N
end
end Go.Proofs.YtegenalcheooeaaGreat
