/- Of the proof of a law of the suites: Copied, Su2, Scal, Steps, Marks, CalmW, Rng. -/
import Derived.Test.YtegenalcheooeaaGreatB01
import Derived.Test.YtegenalcheooeaaGreatB02
import Derived.Test.YtegenalcheooeaaGreatB03
import Derived.Test.YtegenalcheooeaaGreatB04
import Derived.Deep.RegionWith
import Derived.Laws.OwnMore
import Derived.Lib.SmallJoins
import Derived.RangeFuncBox
import Derived.BigQuiet
import Derived.RangeFuncNested
import Derived.RangeFuncBound
import Derived.RangeFuncCalls
import Derived.RangeFuncLeaves
import Derived.Shelf.Abstract
import Derived.Shelf.RegionOpen
import Derived.WalkKit
import Derived.OwnWalkIn
import Derived.TacticsInMore
import Derived.LoopNIn
import Derived.LoopIn
set_option linter.unusedSectionVars false
set_option linter.unusedSimpArgs false
set_option linter.unusedVariables false
namespace Go.Proofs.YtegenalcheooeaaGreat
open Go.RowKit
attribute [local go_sem] cell?_exto
set_option maxHeartbeats 16000000
set_option maxRecDepth 100000
section
/- suite.copied: labels in memory of their own. -/
section
variable {α:Type} {R:Rdr α} {k:Nat}
theorem Flat.put {S:Nat->Prop} {w w':World} (m:∀{x cs},R S w x cs->cs.length=k):∀{xs:List α} {cs:List Value} (i c:Nat) (u:Value) (d:α),Flat R k S w xs cs->c<k->(hi:i<xs.length) ->
  (∀x∈xs,∀cs,R S w x cs->R S w' x cs)->(∀cs,R S w xs[i] cs->R S w' d (cs.set c u))->Flat R k S w' (xs.set i d) (cs.set (i*k+c) u)
 | [],_,_,_,_,_,_,_,hi,_,_=>absurd hi (by simp)
 | x :: xs,cs,0,c,u,d,⟨c1,c2,h1,h2,h3,h4⟩,hc,_,hm,hn=>by
  subst h1;refine⟨c1.set c u,c2,?_,by simpa using h2,hn c1 h3,h4.imp λy hy=>hm y (by simp[hy])⟩;rw[Nat.zero_mul,Nat.zero_add,List.set_append_left _ _ (by omega)]
 | x :: xs,cs,i+1,c,u,d,⟨c1,c2,h1,h2,h3,h4⟩,hc,hi,hm,hn=>by
  subst h1;refine⟨c1,c2.set (i*k+c) u,?_,h2,hm x (by simp) _ h3,Flat.put m i c u d h4 hc (by simpa using hi) (λy hy=>hm y (by simp[hy])) (by simpa using hn)⟩;rw[List.set_append_right _ _ (by rw[h2,Nat.add_mul];omega)]
  congr 2
  rw[h2,Nat.add_mul];omega
theorem qab.put {e:TypeId} {base:Nat} {T:Nat->Prop} {w:World} {xs:List α} {g d:Nat} (E:Good R k) (h:qab R k e base T w xs (.slice (some ⟨g,0,none⟩) xs.length d)) (i c:Nat) (u:Value) (A:α) (G:c<k) (hi:i<xs.length)
  (hn:∀cs,R (λb=>T b/\b≠g) w xs[i] cs->R (λb=>T b/\b≠g) w A (cs.set c u)):qab R k e base T (w.setCell ⟨g,i*k+c,none⟩ u) (xs.set i A) (.slice (some ⟨g,0,none⟩) xs.length d):=by
 obtain⟨news,J,F⟩:=h
 have hS:(λb=>T b/\(Value.slice (some ⟨g,0,none⟩) xs.length d).ownBlock≠some b)=λb=>T b/\b≠g:=by
  funext b
  simp[Value.ownBlock,eq_comm]
 rw[hS]at F;have L:=grownBy_setCell' w g u;have m:Kp (λb=>T b/\b≠g) w (w.setCell ⟨g,i*k+c,none⟩ u):=⟨by simp[World.setCell],λq _ I=>Below.heap_setCell w _ u q I.2⟩
 refine⟨news.set (i*k+c) u,?_,?_⟩
 .rw [List.length_set];exact(J.stored _ u).1
 rw[hS];exact Flat.put (λh=>E.len h) i c u A F G hi (λx _ cs D=>E.move D m) λcs D=>E.move (hn cs D) m
theorem Flat.at {S:Nat->Prop} {w:World}:∀{xs:List α} {cs:List Value} (i:Nat) (hi:i<xs.length),Flat R k S w xs cs->∃c,c.length=k/\R S w xs[i] c/\∀j,j<k->cs[i*k+j]? = c[j]?
 | x :: xs,cs,0,_,⟨c,c2,h1,h2,h3,h4⟩=>⟨c,h2,h3,λj m=>by rw[h1,Nat.zero_mul,Nat.zero_add,List.getElem?_append_left (by omega)]⟩
 | x :: xs,cs,i+1,hi,⟨c,c2,h1,h2,h3,h4⟩=>by
  obtain⟨d,D,u,A⟩:=Flat.at i (by simpa using hi) h4;refine⟨d,D,by simpa using u,λj m=>?_⟩;rw[h1,List.getElem?_append_right (by rw[h2,Nat.add_mul];omega),<- A j m]
  congr 1
  rw[h2,Nat.add_mul];omega
theorem qgd (g n c:Nat) (T:Nat->Prop):(λb=>T b/\(Value.slice (some ⟨g,0,none⟩) n c).ownBlock≠some b)=λb=>T b/\b≠g:=by
 funext b
 simp[Value.ownBlock,eq_comm]
theorem qdy {W c:World} (m:Ext W c) {a:Addr} (d:a.block<W.heap.size) (h:W.frozen? a=false):c.frozen? a=false:=(m.frozen d).trans h
end
theorem Tm.size_pos (t:Tm):0<t.size:=by cases t;rw[Tm.size];omega
theorem Tm.sizes_len:∀l:List Tm,l.length<=Tm.sizes l
 | []=>by simp
 | t :: l=>by
  have:=Tm.sizes_len l;have:=t.size_pos;rw[Tm.sizes,List.length_cons];omega
theorem Tm.sizes_l (t:Tm):Tm.sizes t.l<t.size:=by cases t;rw[Tm.size];exact Nat.lt_succ_self _
def CopyC (l:List Tm):Prop:=∀(S:Nat->Prop) (B:Nat) (v:Value) (W:World),qar S W l [v]->W.cell? ⟨B,0,none⟩=some (.func (.func 151) #[] #[.pointer (some ⟨B,0,none⟩)]) ->
  Calls Tryz.prog 151 #[v,.pointer (some ⟨B,0,none⟩)] W λe w'=>∃A c,e = .returned (.slice A l.length c)/\qar (λb=>(S b/\b<W.heap.size)\/W.heap.size<=b) w' l [.slice A l.length c]/\Ext W w'
theorem copied1_c:∀(n:Nat) (l:List Tm),Tm.sizes l<=n->n<=1000000000->CopyC l:=by
 intro n
 induction n using Nat.strongRecOn with
 | _ n ih =>
 intro l hl hn S B v w I hB;have ag:=World.block_lt_of_cell? w _ hB;have aj:=Tm.sizes_len l;have aa:=λW (Y:Ext w W)=>cloneTm S l v W (qar.good.bel I Y) (by omega)
 obtain⟨A,c,rfl,_,_⟩:=I.val;obtain⟨T,M⟩:∃T:Nat->Prop,T=λb=>(S b/\b<w.heap.size)\/w.heap.size<=b:=⟨_,rfl⟩
 have HX:=Hd I;clear I;rw[<- M]
 go_enter Tryz.func151,Tryz.ntmps151
 go_wp2_with fail
 refine(cloneTm (λb=>S b/\b<w.heap.size) l _ _ (qar.good.mono HX.out λb h1 h2=>⟨h2,h1⟩) (by omega)).mono ?_;rintro e w1 ⟨v1,rfl,F,h1⟩;obtain⟨A1,c1,rfl,_,_⟩:=(F.sl RTm.good (by decide)).val;have HV:=Hd (F.mono (T':=T) RTm.good λb _ h=>by rw[M];exact .inl h);clear F HX aa
 go_wp2_with fail
 go_loopw [9] (λi wr=>∃k:Nat,k<=l.length/\i = .int .i64 k/\qab RTm 3 159 w.heap.size T wr l (.slice A1 l.length c1)/\Ext w wr) (λi _=>l.length-(intOf i).toNat)
 case atStart=>exact⟨0,Nat.zero_le _,rfl,HV.out,h1⟩
 obtain⟨k,hk,rfl,N,O⟩:=hrel
 by_cases m:k<l.length
 .obtain ⟨news,d,hF⟩:=id N;obtain⟨g,ae,he⟩:=Joins.ownsRow_form d (by omega);injection he with he1 _ he2
  subst he1 he2;rw[qgd]at hF;obtain⟨c2,af,hr,U⟩:=hF.at k m;obtain⟨_,_,v2,rfl,G⟩:=(qa6 ..).1 hr;have gc:wr.cell? ⟨g,k*3+2,none⟩=some v2:=by rw[d.cellAt _ (by omega),U 2 (by decide)];rfl
  have gf:=d.frozenAt (k*3+2);have ah:g<wr.heap.size:=World.block_lt_of_cell? wr _ gc;have X:=λW (Y:Ext wr W)=>ih (Tm.sizes l[k].l) (by have:=Tm.sizes_l l[k];have:=Tm.size_mem (List.getElem_mem m);omega) l[k].l (Nat.le_refl _) (by have:=Tm.sizes_l l[k];have:=Tm.size_mem (List.getElem_mem m);omega) (λb=>T b/\b≠g) B v2 W (qar.good.bel G Y) (Ext.keep (O.trans' Y) hB)
  obtain⟨A2,c2,rfl,_,_⟩:=G.val;have gB:=Ext.keep O hB;have ab:w.heap.size<=g:=(qcb d g rfl).1
  have key:∀(E:World) (J:Option Addr) (c3:Nat),Ext wr.drew E->qar (λb=>(T b/\b≠g)/\b<wr.drew.heap.size\/wr.drew.heap.size<=b) E l[k].l [.slice J l[k].l.length c3] ->
    qab RTm 3 159 w.heap.size T (E.setCell ⟨g,k*3+2,none⟩ (.slice J l[k].l.length c3)) l (.slice (some ⟨g,0,none⟩) l.length c1)/\Ext w (E.setCell ⟨g,k*3+2,none⟩ (.slice J l[k].l.length c3)):=λE J c3 I ho=>by
   have L:Ext wr E:=Ext.trans' (Ext.refl wr).drew I
   have h:=qab.put RTm.good (N.ext RTm.good L) k 2 (.slice J l[k].l.length c3) l[k] (by decide) m λcs ac=>by
    obtain⟨i1,i2,u,rfl,hu⟩:=(qa6 ..).1 ac;refine(qa6 ..).2 ⟨i1,i2,_,rfl,qar.good.mono ho λb _ hb=>?_⟩
    rcases hb with⟨h,_⟩ | h
    .exact h
    have h':wr.heap.size<=b:=h;have:=O.size;exact⟨by rw[M];exact .inr (by omega),by omega⟩
   rw[List.set_getElem_self]at h;exact⟨h,(O.trans' L).set ab _⟩
  have HK:=Hd key;clear N hF hr U G d key
  go_wp2_with fail
  go_region_with (first | (go_at_call 151;refine(X _ bel).mono ?_;rintro e E ⟨J,c3,rfl,V,D⟩;have ai:=qdy D (by assumption) gf;have ad:=Ext.keep D gc))
  all_goals go_wp2_with fail
  all_goals go_roundw
  all_goals first
   | exact⟨k+1,by omega,by go_num,(HK.out _ _ _ D V).1,(HK.out _ _ _ D V).2⟩
   | (simp[intOf];omega)
 have HO:=Hd N;clear N
 go_wp2_with fail
 go_ret;refine⟨A1,c1,rfl,qar.good.mono (HO.out.sl RTm.good (by decide)) λb _ hb=>?_,O⟩;rw[M]
 rcases hb with h | h
 .rw [M]at h;exact h
 exact .inr h
def Lb.size (x:Lb):Nat:=Tm.sizes x.v
theorem qrb (S:Nat->Prop) (l:List Lb) (v:Value) (w:World) (X:qaa S w l [v]) (ad:∀x∈l,x.size<=1000000000) (Y:l.length*32<=140737488355328) :
  Calls Tryz.prog 82 #[v] w λe w'=>∃A c,e = .returned (.slice A l.length c)/\qaa (λb=>(S b/\b<w.heap.size)\/w.heap.size<=b) w' l [.slice A l.length c]/\Ext w w':=by
 obtain⟨A,c,rfl,_,_⟩:=X.val;obtain⟨T,O⟩:∃T:Nat->Prop,T=λb=>(S b/\b<w.heap.size)\/w.heap.size<=b:=⟨_,rfl⟩
 have HX:=Hd X;clear X;rw[<- O]
 go_enter Tryz.func82,Tryz.ntmps82
 go_wp2_with fail
 obtain⟨W0,D⟩:=nm (w.alloc (.cells #[.func (.func 151) #[] #[.pointer (some ⟨w.heap.size,0,none⟩)]] 194));have M:Ext w W0:=by rw[<- D];exact(Ext.refl w).alloc _
 have hB:W0.cell? ⟨w.heap.size,0,none⟩=some (.func (.func 151) #[] #[.pointer (some ⟨w.heap.size,0,none⟩)]):=by rw[<- D];simp
 have al:=World.block_lt_of_cell? W0 _ hB;rw[D];clear D;refine(qpe (λb=>S b/\b<w.heap.size) l _ _ (qaa.good.bel (qaa.good.mono HX.out λb h1 h2=>⟨h2,h1⟩) M) Y).mono ?_;rintro e w1 ⟨v1,rfl,G,h1⟩;obtain⟨A1,c1,rfl,_,_⟩:=(G.sl RLb.good (by decide)).val;have HV:=Hd (G.mono (T':=T) RLb.good λb _ h=>by rw[O];exact .inl h);have V:=M.size;have af:Ext w w1:=M.trans' h1;have ac:=Ext.keep h1 hB;clear G HX hB
 go_wp2_with fail
 go_loopw [10] (λi wr=>∃k:Nat,k<=l.length/\i = .int .i64 k/\qab RLb 2 61 W0.heap.size T wr l (.slice A1 l.length c1)/\Ext w wr/\wr.cell? ⟨w.heap.size,0,none⟩=some (.func (.func 151) #[] #[.pointer (some ⟨w.heap.size,0,none⟩)])) (λi _=>l.length-(intOf i).toNat)
 case atStart=>exact⟨0,Nat.zero_le _,rfl,HV.out,af,ac⟩
 obtain⟨k,hk,rfl,U,hE,gB⟩:=hrel
 by_cases L:k<l.length
 .obtain ⟨news,d,hF⟩:=id U;obtain⟨g,ai,he⟩:=Joins.ownsRow_form d (by omega);injection he with he1 _ he2
  subst he1 he2;rw[qgd]at hF;obtain⟨c2,ak,hr,aa⟩:=hF.at k L;obtain⟨aj,v2,rfl,I⟩:=id hr;have gc:wr.cell? ⟨g,k*2+1,none⟩=some v2:=by rw[d.cellAt _ (by omega),aa 1 (by decide)];rfl
  have gf:=d.frozenAt (k*2+1);have am:g<wr.heap.size:=World.block_lt_of_cell? wr _ gc;have ab:=λW (hW:Ext wr W)=>copied1_c (Tm.sizes l[k].v) l[k].v (Nat.le_refl _) (ad _ (List.getElem_mem L)) (λb=>T b/\b≠g) w.heap.size v2 W (qar.good.bel I hW) (Ext.keep hW gB)
  obtain⟨A2,c2,rfl,_,_⟩:=I.val;have ae:W0.heap.size<=g:=(qcb d g rfl).1
  have key:∀(E:World) (J:Option Addr) (c3:Nat),Ext wr.drew E->qar (λb=>(T b/\b≠g)/\b<wr.drew.heap.size\/wr.drew.heap.size<=b) E l[k].v [.slice J l[k].v.length c3] ->
    qab RLb 2 61 W0.heap.size T (E.setCell ⟨g,k*2+1,none⟩ (.slice J l[k].v.length c3)) l (.slice (some ⟨g,0,none⟩) l.length c1)/\Ext w (E.setCell ⟨g,k*2+1,none⟩ (.slice J l[k].v.length c3))/\(E.setCell ⟨g,k*2+1,none⟩ (.slice J l[k].v.length c3)).cell? ⟨w.heap.size,0,none⟩=some (.func (.func 151) #[] #[.pointer (some ⟨w.heap.size,0,none⟩)]):=λE J c3 X ho=>by
   have F:Ext wr E:=Ext.trans' (Ext.refl wr).drew X
   have h:=qab.put RLb.good (U.ext RLb.good F) k 1 (.slice J l[k].v.length c3) l[k] (by decide) L λcs ag=>by
    obtain⟨i1,u,rfl,hu⟩:=ag;refine⟨i1,_,rfl,qar.good.mono ho λb _ hb=>?_⟩
    rcases hb with⟨h,_⟩ | h
    .exact h
    have h':wr.heap.size<=b:=h;have:=hE.size;exact⟨by rw[O];exact .inr (by omega),by omega⟩
   rw[List.set_getElem_self]at h;exact⟨h,(hE.trans' F).set (Nat.le_trans V ae) _,(World.cell?_of_block (a:=⟨w.heap.size,0,none⟩) (Below.heap_setCell E _ _ _ (by show w.heap.size≠g;omega))).trans (Ext.keep F gB)⟩
  have HK:=Hd key;clear U hF hr aa I d key
  go_wp2_with fail
  go_region_with (first | (go_at_call 151;refine(ab _ bel).mono ?_;rintro e E ⟨J,c3,rfl,N,m⟩;have an:=qdy m (by assumption) gf;have ah:=Ext.keep m gc))
  all_goals go_wp2_with fail
  all_goals go_roundw
  all_goals first
   | exact⟨k+1,by omega,by go_num,(HK.out _ _ _ m N).1,(HK.out _ _ _ m N).2.1,(HK.out _ _ _ m N).2.2⟩
   | (simp[intOf];omega)
 have HO:=Hd U;clear U
 go_wp2_with fail
 go_ret;refine⟨A1,c1,rfl,qaa.good.mono (HO.out.sl RLb.good (by decide)) λb _ hb=>?_,hE⟩;rw[O]
 rcases hb with h | h
 .rw [O]at h;exact h
 exact .inr (by omega)
end
section
/- suite: binary search,within,common,subset. -/
def bsI (p:Nat->Bool):Nat->Nat->Nat->Nat
 | 0,i,_=>i
 | f+1,i,j=>if i<j then (if p ((i+j) / 2) then bsI p f ((i+j) / 2+1) j else bsI p f i ((i+j) / 2)) else i
theorem qka (p:Nat->Bool):∀(f i j:Nat),j-i<=f->bsI p f i j=bsI p (j-i) i j
 | 0,i,j,h=>by rw[show j-i=0 from by omega]
 | f+1,i,j,h=>by
  by_cases c:i<j
  .obtain ⟨m,d⟩:∃m,j-i=m+1:=⟨j-i-1,by omega⟩
   rw[d,bsI,bsI,if_pos c,if_pos c]
   split
   .rw [qka p f _ _ (by omega),qka p m _ _ (by omega)]
   rw[qka p f _ _ (by omega),qka p m _ _ (by omega)]
  rw[show j-i=0 from by omega,bsI,bsI,if_neg c]
theorem qqv (p:Nat->Bool) (i j:Nat) (h:i<j):bsI p (j-i) i j=if p ((i+j) / 2) then bsI p (j-((i+j) / 2+1)) ((i+j) / 2+1) j else bsI p ((i+j) / 2-i) i ((i+j) / 2):=by
 obtain⟨m,c⟩:∃m,j-i=m+1:=⟨j-i-1,by omega⟩
 rw[c,bsI,if_pos h]
 split
 .rw [qka p m _ _ (by omega)]
 rw[qka p m _ _ (by omega)]
theorem qlf (p:Nat->Bool):∀(f i j:Nat),i<=j->i<=bsI p f i j/\bsI p f i j<=j
 | 0,i,j,h=>by rw[bsI];omega
 | f+1,i,j,h=>by
  rw[bsI]
  split
  .split
   .have:=qlf p f ((i+j) / 2+1) j (by omega);omega
   have:=qlf p f i ((i+j) / 2) (by omega);omega
  omega
def bsP (l:List Lb) (x:Lb) (h:Nat):Bool:=match l[h]? with | some y=>decide (qak y x<0) | none=>false
def qci (l:List Lb) (x:Lb):Nat:=bsI (bsP l x) l.length 0 l.length
def isAt (l:List Lb) (x:Lb) (h:Nat):Bool:=match l[h]? with | some y=>decide (qak y x=0) | none=>false
def qdt (x:Lb) (l:List Lb):Bool:=isAt l x (qci l x)
theorem qii {l:List Lb} {x:Lb} {h:Nat} (c:h<l.length):bsP l x h=decide (qak l[h] x<0):=by simp[bsP,List.getElem?_eq_getElem c]
theorem qmu {l:List Lb} {x:Lb} {h:Nat} (c:h<l.length):isAt l x h=decide (qak l[h] x=0):=by simp[isAt,List.getElem?_eq_getElem c]
theorem qqr {l:List Lb} {x:Lb} {h:Nat} (c:¬ h<l.length):isAt l x h=false:=by simp[isAt,List.getElem?_eq_none (Nat.le_of_not_lt c)]
theorem qpy (S:Nat->Prop) (l:List Lb) (x:Lb) (v:Value) (cx:List Value) (w:World) (J:qaa S w l [v]) (X:RLb S w x cx) (hn:l.length<=4611686018427387903) :
  Calls Tryz.prog 213 #[v,.agg cx.toArray,.func (.func 166) #[] #[]] w λe w'=>e = .returned (.tuple #[.int .i64 (qci l x:Nat),.bool (qdt x l)])/\qag w w':=by
 obtain⟨A,c,rfl,hc,ad⟩:=J.val;obtain⟨_,V,rfl,Y⟩:=id X;have HL:=Hd J;have HX:=Hd X;clear J X Y
 go_enter Tryz.func213,Tryz.ntmps213
 go_wp2_with fail
 go_loopw [9,10,11] (λvi vj _ wr=>∃i j:Nat,i<=j/\j<=l.length/\vi = .int .i64 i/\vj = .int .i64 j/\qag w wr/\wr.cell? ⟨w.heap.size,0,none⟩=some (.int .i64 x.g)/\wr.cell? ⟨w.heap.size,1,none⟩=some V/\Hid (qci l x=bsI (bsP l x) (j-i) i j)) (λvi vj _ _=>((intOf vj)-(intOf vi)).toNat)
 case atStart=>exact⟨0,l.length,Nat.zero_le _,Nat.le_refl _,rfl,rfl,qan,by go_simp,by go_simp,rfl⟩
 obtain⟨i,j,aa,hj,rfl,rfl,U,q0,q1,G⟩:=hrel
 by_cases I:i<j
 .have E:=qqv (bsP l x) i j I;obtain⟨h,hh⟩:=nm ((i+j) / 2);have y1:((i:Int)+(j:Int)) / 2=(h:Int):=by omega
  have M:h<l.length:=by omega
  have ab:i<=h:=by omega
  have ac:h<j:=by omega
  rw[hh]at E;clear hh;obtain⟨b,u,cs,rfl,hb,hs,J,hr,d⟩:=(qaa.good.ext HL.out U).get (h) M;obtain⟨_,v1,rfl,L⟩:=id hr;obtain⟨g0,g1⟩:=g2 d;have D:=λW (O:qag wr W)=>qi2 S _ _ _ _ W (RLb.good.ext hr O) (RLb.good.ext HX.out (U.trans O))
  have z1:(0:Int)<=(h:Int):=by omega
  have z2:(h:Int)<(l.length:Int):=by omega
  have N:=Hd E;clear E;clear d J hs L hr
  by_cases F:qak l[h] x<0
  .have HC:=Hd (show bsP l x (h)=true from by rw[qii M];exact decide_eq_true F)
   go_wp2_with fail
   go_region_held3 (λW=>W.cell? ⟨b,u+h*2,none⟩=some (.int .i64 l[h].g)/\W.cell? ⟨b,u+h*2+1,none⟩=some v1/\W.cell? ⟨w.heap.size,0,none⟩=some (.int .i64 x.g)/\W.cell? ⟨w.heap.size,1,none⟩=some V)
    (first | (refine⟨?_,?_,?_,?_⟩ <;> go_simp <;> done) | exact m.k4 (by assumption) | exact((qag.refl _).alloc _).k4 (by assumption))
    (first | (go_at_call 166;refine(D _ qan).mono ?_;rintro e w1 ⟨rfl,m⟩))
   clear y1
   go_wp2_with fail
   go_roundw
   case rel =>
    refine⟨h+1,j,by omega,hj,by go_num,rfl,qan,m.keep q0,m.keep q1,?_⟩;rw[G.out,N.out,if_pos HC.out];exact rfl
   simp[intOf];omega
  have HC:=Hd (show bsP l x (h)=false from by rw[qii M];exact decide_eq_false F);have hd:0<=qak l[h] x:=by omega
  clear F
  go_wp2_with fail
  go_region_held3 (λW=>W.cell? ⟨b,u+h*2,none⟩=some (.int .i64 l[h].g)/\W.cell? ⟨b,u+h*2+1,none⟩=some v1/\W.cell? ⟨w.heap.size,0,none⟩=some (.int .i64 x.g)/\W.cell? ⟨w.heap.size,1,none⟩=some V)
   (first | (refine⟨?_,?_,?_,?_⟩ <;> go_simp <;> done) | exact m.k4 (by assumption) | exact((qag.refl _).alloc _).k4 (by assumption))
   (first | (go_at_call 166;refine(D _ qan).mono ?_;rintro e w1 ⟨rfl,m⟩))
  clear y1
  go_wp2_with fail
  go_roundw
  case rel =>
   refine⟨i,h,by omega,by omega,rfl,rfl,qan,m.keep q0,m.keep q1,?_⟩;rw[G.out,N.out,if_neg (by rw[HC.out];decide)];exact rfl
  simp[intOf];omega
 obtain rfl:i=j:=by omega
 have hi:qci l x=i:=by rw[G.out,show i-i=0 from by omega,bsI]
 by_cases M:i<l.length
 .have HV:=Hd (show qdt x l=decide (qak l[i] x=0) from by rw[qdt,hi,qmu M]);have HI:=Hd hi;clear hi I;obtain⟨b,u,cs,rfl,hb,hs,J,hr,d⟩:=(qaa.good.ext HL.out U).get i M;obtain⟨_,v1,rfl,L⟩:=id hr;obtain⟨g0,g1⟩:=g2 d;have D:=λW (O:qag wr W)=>qi2 S _ _ _ _ W (RLb.good.ext hr O) (RLb.good.ext HX.out (U.trans O))
  have z1:(0:Int)<=(i:Int):=by omega
  have z2:(i:Int)<(l.length:Int):=by omega
  have z3:decide ((i:Int)<(l.length:Int))=true:=decide_eq_true z2;clear d J hs L hr
  go_wp2_with fail
  go_region_held3 (λW=>W.cell? ⟨b,u+i*2,none⟩=some (.int .i64 l[i].g)/\W.cell? ⟨b,u+i*2+1,none⟩=some v1/\W.cell? ⟨w.heap.size,0,none⟩=some (.int .i64 x.g)/\W.cell? ⟨w.heap.size,1,none⟩=some V)
   (first | (refine⟨?_,?_,?_,?_⟩ <;> go_simp <;> done) | exact m.k4 (by assumption) | exact((qag.refl _).alloc _).k4 (by assumption))
   (first | (go_at_call 166;refine(D _ qan).mono ?_;rintro e w1 ⟨rfl,m⟩))
  go_wp2_with fail
  go_ret2;exact⟨by rw[HV.out,HI.out];rfl,qan⟩
 have HV:=Hd (show qdt x l=false from by rw[qdt,hi,qqr M]);have HI:=Hd hi;have z3:decide ((i:Int)<(l.length:Int))=false:=decide_eq_false (by omega);clear hi I
 go_wp2_with fail
 go_quiet (fail)
 go_wp2_with fail
 go_ret2;exact⟨by rw[HV.out,HI.out];rfl,qan⟩
theorem qwd (S:Nat->Prop) (l:List Lb) (x:Lb) (v:Value) (m:List Value) (w:World) (E:qaa S w l [v]) (u:RLb S w x m) (hn:l.length<=4611686018427387903) :
  Calls Tryz.prog 212 #[.agg m.toArray,v] w λe w'=>e = .returned (.bool (qdt x l))/\qag w w':=by
 have d:=λW (F:qag w W)=>qpy S l x v m W (qaa.good.ext E F) (RLb.good.ext u F) hn
 obtain⟨A,c,rfl,J,G⟩:=E.val;obtain⟨_,I,rfl,D⟩:=id u;clear E u D
 go_enter Tryz.func212,Tryz.ntmps212
 go_wp2_with fail
 refine(d _ qan).mono ?_;rintro e M ⟨rfl,L⟩
 go_wp2_with fail
 go_ret;exact⟨rfl,qan⟩
def qe1 (a b:List Lb):Bool:=a.any λx=>qdt x b
theorem eg211:∀args w,(callFunc 211 args).run Tryz.prog w = .ok (.enter 211 args) w:=enters_of Tryz.func211 (by kernel_rfl) rfl
theorem common1_c (S:Nat->Prop) (l:List Lb) (x:Lb) (v:Value) (B:Nat) (m:List Value) (w:World) (E:qaa S w l [v]) (u:RLb S w x m) (hn:l.length<=4611686018427387903) (G:w.cell? ⟨B,0,none⟩=some v) :
  Calls Tryz.prog 211 #[.agg m.toArray,.pointer (some ⟨B,0,none⟩)] w λe w'=>e = .returned (.bool (qdt x l))/\Ext w w':=by
 have d:=λW (F:qag w W)=>qwd S l x v m W (qaa.good.ext E F) (RLb.good.ext u F) hn
 obtain⟨A,c,rfl,M,I⟩:=E.val;obtain⟨_,L,rfl,D⟩:=id u;have J:=World.block_lt_of_cell? w _ G;clear E u D
 go_enter Tryz.func211,Tryz.ntmps211
 go_wp2_with fail
 refine(d _ qan).mono ?_;rintro e O ⟨rfl,N⟩
 go_wp2_with fail
 go_ret;exact⟨rfl,bel⟩
theorem qqm (S:Nat->Prop) (a b:List Lb) (D u:Value) (w:World) (E:qaa S w a [D]) (F:qaa S w b [u]) (hn:b.length<=4611686018427387903) :
  Calls Tryz.prog 146 #[D,u] w λe w'=>e = .returned (.bool (qe1 a b))/\Ext w w':=by
 have m:=λB W (J:Ext w W) (I:W.cell? ⟨B,0,none⟩=some u)=>conPLb (λx=>qdt x b) S W a D (qaa.good.bel E J) 211 #[.pointer (some ⟨B,0,none⟩)] eg211
  (λx O cs W' d hr=>common1_c S b x u B cs W' (qaa.good.bel F (J.trans' d)) hr hn ((d.cell (World.block_lt_of_cell? W _ I)).trans I))
 obtain⟨A,c,rfl,V,M⟩:=E.val;obtain⟨N,U,rfl,L,G⟩:=F.val;clear E F
 go_enter Tryz.func146,Tryz.ntmps146
 go_wp2_with fail
 refine(m _ _ bel (by go_simp)).mono ?_;rintro e X ⟨rfl,Y⟩
 go_wp2_with fail
 go_ret;exact⟨rfl,bel⟩
end
section
/- slices.Index,Contains,Equal at whole numbers and truth values. -/
def qck {α:Type} [DecidableEq α] (x:α):List α->Int
 | []=>-1
 | y :: ys=>if x=y then 0 else qck x ys+if qck x ys<0 then 0 else 1
theorem qmc {α:Type} [DecidableEq α] (x:α):∀ys:List α,-1<=qck x ys
 | []=>by simp[qck]
 | y :: ys=>by
  have:=qmc x ys;rw[qck]
  split
  .simp
  split <;> omega
theorem leq_eq {α:Type} [DecidableEq α]:∀xs ys:List α,leq (λx y=>decide (x=y)) xs ys=decide (xs=ys)
 | [],[]=>by simp[leq]
 | [],_ :: _=>by simp[leq]
 | _ :: _,[]=>by simp[leq]
 | x :: xs,y :: ys=>by rw[leq,leq_eq xs ys];simp
theorem qoy {α:Type} [DecidableEq α] (x:α):∀ys:List α,0<=qck x ys↔x∈ys
 | []=>by simp[qck]
 | y :: ys=>by
  have h:=qoy x ys;have d:=qmc x ys;rw[qck,List.mem_cons]
  split
  .rename_i e;simp[e]
  rename_i e;rw[<- h]
  split
  .rename_i e2;constructor
   .intro c;omega
   rintro(c | c)
   .exact absurd c e
   omega
  constructor
  .intro _;right;omega
  intro _;omega
theorem indexInt (S:Nat->Prop) (xs:List Int) (x:Int) (v:Value) (w:World) (G:RSl qad 1 S w xs [v]):Calls Tryz.prog 104 #[v,.int .i64 x] w λe w'=>e = .returned (.int .i64 (qck x xs))/\w'=w:=by
 obtain⟨A,c,rfl,U,L⟩:=G.val;have J:=Hd G;clear G
 go_enter Tryz.func104,Tryz.ntmps104
 go_wp2
 go_loopw [5,8] (λ_ i wr=>∃k:Nat,k<=xs.length/\i = .int .i64 k/\wr=w/\Hid (qck x xs=qck x (xs.drop k)+(if qck x (xs.drop k)<0 then 0 else (k:Int)))) (λ_ i _=>xs.length-(intOf i).toNat)
 case atStart=>exact⟨0,Nat.zero_le _,rfl,rfl,by simp[Hid]⟩
 obtain⟨k,V,rfl,rfl,hf⟩:=hrel
 by_cases D:k<xs.length
 .obtain ⟨b,F,cs,rfl,O,hS,M,hr,m⟩:=J.out.get k D;obtain rfl:cs=[.int .i64 xs[k]]:=hr.1;have X:=(by simpa using m.get 0 _:wr.cell? ⟨b,F+k,none⟩=some (.int .i64 xs[k]))
  have d:=hf.out;rw[List.drop_eq_getElem_cons D,qck]at d;clear m M hS hr hf
  by_cases u:x=xs[k]
  .rw [if_pos u]at d;have E:=Hd d;have I:(x == xs[k])=true:=beq_iff_eq.2 u;clear d u
   go_wp2_with fail
   go_ret;rw[E.out];exact⟨by simp,rfl⟩
  rw[if_neg u]at d;have E:=Hd d;have I:(x == xs[k])=false:=beq_eq_false_iff_ne.2 u;clear d u
  go_wp2_with fail
  go_roundw
  case rel =>
   refine⟨k+1,by omega,by go_num,(by first | rfl | trivial),?_⟩;show qck x xs=_;rw[E.out];have:=qmc x (xs.drop (k+1))
   split <;> split <;> omega
  simp[intOf];omega
 have N:xs.drop k=[]:=List.drop_of_length_le (by omega);have d:=hf.out;rw[N,qck]at d;have E:=Hd d;clear hf d
 go_wp2
 go_ret;rw[E.out];exact⟨by simp,rfl⟩
theorem quu (S:Nat->Prop) (xs:List Int) (x:Int) (v:Value) (w:World) (d:RSl qad 1 S w xs [v]):Calls Tryz.prog 32 #[v,.int .i64 x] w λe w'=>e = .returned (.bool (decide (x∈xs)))/\w'=w:=by
 obtain⟨A,c,rfl,E,D⟩:=d.val;have u:=Hd d;have m:=Hd (qoy x xs);clear d
 go_enter Tryz.func32,Tryz.ntmps32
 go_wp2_with fail
 refine(indexInt S xs x _ w u.out).mono ?_;rintro e w' ⟨rfl,rfl⟩
 generalize hi:qck x xs=i at m ⊢
 clear hi
 go_wp2_with fail
 all_goals go_ret
 exact⟨by rw[show decide (0<=i)=decide (x∈xs) from decide_eq_decide.2 m.out];rfl,rfl⟩
theorem qju (S:Nat->Prop) (xs ys:List Int) (v u:Value) (w:World) (X:RSl qad 1 S w xs [v]) (hy:RSl qad 1 S w ys [u]):Calls Tryz.prog 47 #[v,u] w λe w'=>e = .returned (.bool (decide (xs=ys)))/\Ext w w':=by
 obtain⟨A,c,rfl,hc,aj⟩:=X.val;obtain⟨A',c',rfl,ai,ac⟩:=hy.val;have HX:=Hd X;have HY:=Hd hy;clear X hy;rw[<- leq_eq]
 by_cases D:xs.length=ys.length
 case neg =>
  have HL:=Hd (qkg (λx y:Int=>decide (x=y)) xs ys D);have N:((xs.length:Int) != (ys.length:Int))=true:=bne_iff_ne.2 (by omega);clear D
  go_enter Tryz.func47,Tryz.ntmps47
  go_wp2_with fail
  go_ret;exact⟨by rw[HL.out];rfl,Ext.refl _⟩
 have N:((xs.length:Int) != (ys.length:Int))=false:=bne_eq_false_iff_eq.2 (by omega);have ad:xs.length<=ys.length:=by omega
 have ae:ys.length<=xs.length:=by omega
 have af:=Hd D;clear D
 go_enter Tryz.func47,Tryz.ntmps47
 go_wp2_with fail
 go_loopw [5,13] (λ_ i wr=>∃k:Nat,k<=xs.length/\k<=ys.length/\i = .int .i64 k/\Ext w wr/\Hid (leq (λx y:Int=>decide (x=y)) xs ys=leq (λx y:Int=>decide (x=y)) (xs.drop k) (ys.drop k))) (λ_ i _=>xs.length-(intOf i).toNat)
 case atStart=>exact⟨0,Nat.zero_le _,Nat.zero_le _,rfl,Ext.refl _,rfl⟩
 obtain⟨k,hk,ah,rfl,hE,hf⟩:=hrel
 by_cases L:k<xs.length
 .obtain ⟨b,U,cs,rfl,hb,hS,hl,hr,E⟩:=((RSl.good qad.good).bel HX.out hE).get k L;have F:k<ys.length:=by omega
  obtain⟨b2,I,O,rfl,ag,aa,V,M,m⟩:=((RSl.good qad.good).bel HY.out hE).get k F;obtain rfl:cs=[.int .i64 xs[k]]:=hr.1;obtain rfl:O=[.int .i64 ys[k]]:=M.1;have g0:=(by simpa using E.get 0 _:wr.cell? ⟨b,U+k,none⟩=some (.int .i64 xs[k]))
  have q0:=(by simpa using m.get 0 _:wr.cell? ⟨b2,I+k,none⟩=some (.int .i64 ys[k]))
  have d:=hf.out;rw[List.drop_eq_getElem_cons L,List.drop_eq_getElem_cons F,leq]at d;clear E m hl V hS aa hr M hf
  by_cases G:xs[k]=ys[k]
  .rw [decide_eq_true G]at d;have J:=Hd d;have Y:(xs[k] != ys[k])=false:=by simp[G]
   clear d G
   go_wp2_with fail
   (refine qap ?_;(repeat (first | go_big_quiet_step ((fail)) | quiet_step ((fail))));refine wpQuiet_nil ?_)
   intro w1 ab
   go_wp2_with fail
   go_roundw
   case rel=>exact⟨k+1,by omega,by omega,by go_num,bel,by show leq _ xs ys=_;rw[J.out];exact Bool.true_and _⟩
   simp[intOf];omega
  rw[decide_eq_false G]at d;have J:=Hd d;have Y:(xs[k] != ys[k])=true:=by simpa using G
  clear d G
  go_wp2_with fail
  (refine qap ?_;(repeat (first | go_big_quiet_step ((fail)) | quiet_step ((fail))));refine wpQuiet_nil ?_)
  intro w1 ab
  go_wp2_with fail
  go_ret;exact⟨by rw[J.out];rfl,bel⟩
 have d:=hf.out;rw[List.drop_of_length_le (l:=xs) (by omega),List.drop_of_length_le (by omega),leq]at d;have J:=Hd d;clear hf d
 go_wp2_with fail
 go_ret;exact⟨by rw[J.out];rfl,hE⟩
theorem qla (S:Nat->Prop) (xs ys:List Bool) (v u:Value) (w:World) (V:RSl qac 1 S w xs [v]) (hy:RSl qac 1 S w ys [u]):Calls Tryz.prog 54 #[v,u] w λe w'=>e = .returned (.bool (decide (xs=ys)))/\Ext w w':=by
 obtain⟨A,c,rfl,hc,aj⟩:=V.val;obtain⟨A',c',rfl,ai,ac⟩:=hy.val;have HX:=Hd V;have HY:=Hd hy;clear V hy;rw[<- leq_eq]
 by_cases D:xs.length=ys.length
 case neg =>
  have HL:=Hd (qkg (λx y:Bool=>decide (x=y)) xs ys D);have M:((xs.length:Int) != (ys.length:Int))=true:=bne_iff_ne.2 (by omega);clear D
  go_enter Tryz.func54,Tryz.ntmps54
  go_wp2_with fail
  go_ret;exact⟨by rw[HL.out];rfl,Ext.refl _⟩
 have M:((xs.length:Int) != (ys.length:Int))=false:=bne_eq_false_iff_eq.2 (by omega);have ad:xs.length<=ys.length:=by omega
 have ae:ys.length<=xs.length:=by omega
 have af:=Hd D;clear D
 go_enter Tryz.func54,Tryz.ntmps54
 go_wp2_with fail
 go_loopw [5,13] (λ_ i wr=>∃k:Nat,k<=xs.length/\k<=ys.length/\i = .int .i64 k/\Ext w wr/\Hid (leq (λx y:Bool=>decide (x=y)) xs ys=leq (λx y:Bool=>decide (x=y)) (xs.drop k) (ys.drop k))) (λ_ i _=>xs.length-(intOf i).toNat)
 case atStart=>exact⟨0,Nat.zero_le _,Nat.zero_le _,rfl,Ext.refl _,rfl⟩
 obtain⟨k,hk,ah,rfl,hE,hf⟩:=hrel
 by_cases L:k<xs.length
 .obtain ⟨b,O,cs,rfl,hb,hS,hl,hr,E⟩:=((RSl.good qac.good).bel HX.out hE).get k L;have F:k<ys.length:=by omega
  obtain⟨b2,I,N,rfl,ag,Y,U,ab,m⟩:=((RSl.good qac.good).bel HY.out hE).get k F;obtain rfl:cs=[.bool xs[k]]:=hr;obtain rfl:N=[.bool ys[k]]:=ab;have g0:=(by simpa using E.get 0 _:wr.cell? ⟨b,O+k,none⟩=some (.bool xs[k]))
  have q0:=(by simpa using m.get 0 _:wr.cell? ⟨b2,I+k,none⟩=some (.bool ys[k]))
  have d:=hf.out;rw[List.drop_eq_getElem_cons L,List.drop_eq_getElem_cons F,leq]at d;clear E m hl U hS Y hf
  by_cases G:xs[k]=ys[k]
  .rw [decide_eq_true G]at d;have J:=Hd d;have X:(!(xs[k] == ys[k]))=false:=by simp[G]
   clear d G
   go_wp2_with fail
   (refine qap ?_;(repeat (first | go_big_quiet_step ((fail)) | quiet_step ((fail))));refine wpQuiet_nil ?_)
   intro w1 aa
   go_wp2_with fail
   go_roundw
   case rel=>exact⟨k+1,by omega,by omega,by go_num,bel,by show leq _ xs ys=_;rw[J.out];exact Bool.true_and _⟩
   simp[intOf];omega
  rw[decide_eq_false G]at d;have J:=Hd d;have X:(!(xs[k] == ys[k]))=true:=by simpa using G
  clear d G
  go_wp2_with fail
  (refine qap ?_;(repeat (first | go_big_quiet_step ((fail)) | quiet_step ((fail))));refine wpQuiet_nil ?_)
  intro w1 aa
  go_wp2_with fail
  go_ret;exact⟨by rw[J.out];rfl,bel⟩
 have d:=hf.out;rw[List.drop_of_length_le (l:=xs) (by omega),List.drop_of_length_le (by omega),leq]at d;have J:=Hd d;clear hf d
 go_wp2_with fail
 go_ret;exact⟨by rw[J.out];rfl,hE⟩
end
section
/- suite.steps: the edges of a state,as an iterator. -/
open Go.Shelf
attribute [local go_sem] Oper.semAt_some
def qay (es:List Ed) (n:Int):List (Fin es.length):=(List.finRange es.length).filter λi=>decide (es[i].f=n)
theorem qui (n:Int):∀(c:List Ed) (i:Nat),qdv i c n=((List.finRange c.length).filter λj=>decide (c[j].f=n)).map λj=>((i+j.1:Nat):Int)
 | [],i=>by simp[qdv]
 | e :: c,i=>by
  rw[qdv,qui n c (i+1)];have:List.finRange (e :: c).length=0 :: (List.finRange c.length).map Fin.succ:=List.finRange_succ (n:=c.length);rw[this,List.filter_cons,List.filter_map]
  have m:∀l:List (Fin c.length),(l.map Fin.succ).map (λj:Fin (c.length+1)=>((i+j.1:Nat):Int))=l.map λj=>((i+1+j.1:Nat):Int):=λl=>by
   rw[List.map_map]
   apply List.map_congr_left
   intro j _;simp only[Function.comp,Fin.val_succ]
   congr 1
   omega
  by_cases d:e.f=n
  .rw [if_pos d,if_pos (by simp[d]),List.map_cons]
   congr 1
   exact(m _).symm
  rw[if_neg d,if_neg (by simp[d])];exact(m _).symm
theorem qwh (c:List Ed) (n:Int):qd2 c n=(qay c n).map λj=>((j.1:Nat):Int):=by
 rw[qd2,qui,qay]
 simp
def qig (es:List Ed) (i:Fin es.length):Array Value:=#[.int .i64 (i.1:Int),.agg #[.int .i64 es[i].f,.int .i64 es[i].l,.int .i64 es[i].t]]
theorem steps1_in (n:Nat) (hn:1<=n) (Z:Nat->Prop) (s:Sy) (g M Bst l:Nat) (state:Int) (hZ:Z M) (J Jx:List (Fin s.es.length)->World->Prop)
  (hY:∀pre x W,J pre W->pre.length<(qay s.es state).length->YieldAt Fence.wide (n-1) Tryz.prog l (qig s.es x) W λe W' =>
   (e = .returned (.bool true)/\J (pre++[x]) W'/\Kp Z W W')\/(e = .returned (.bool false)/\Jx (pre++[x]) W'))
  (W:World) (hJ:∀W',J [] W->Ext W W'->J [] W') (hS:qaz Z W g s) (V:W.cell? ⟨M,0,none⟩=some (.pointer (some ⟨g,0,none⟩))) (X:W.cell? ⟨Bst,0,none⟩=some (.int .i64 state)) (h0:J [] W) :
  CallsIn Fence.wide n Tryz.prog 234 #[.func (.yield l) #[] #[],.pointer (some ⟨M,0,none⟩),.pointer (some ⟨Bst,0,none⟩)] W λe W'=>(∃v,e = .returned v) /\
   ((∃ys,ys=qay s.es state/\J ys W')\/(∃pre,pre <+: qay s.es state/\Jx pre W')):=by
 obtain⟨v,u,m,f,hg,hL,hE,am,aC,hM,ai,G⟩:=hS.ex;obtain⟨A',c',rfl,aG,az⟩:=hE.val
 obtain⟨rv,af,I⟩:∃rv,(f state).getD (.slice none 0 0)=rv/\RSl qad 1 Z W (qd2 s.es state) [rv]:=by
  cases hf:f state with
  | none=>exact⟨_,rfl,by rw[ai state hf];exact⟨none,0,rfl,Nat.le_refl _,by omega,.inl rfl⟩⟩
  | some x=>exact⟨x,rfl,G state x hf⟩
 obtain⟨Ar,cr,rfl,aE,ay⟩:=I.val;have d:=λW' (hW:W'.heap[m]? = W.heap[m]?)=>(hM.move (W':=W') hW).lookup (P:=Tryz.prog) Tryz.underlying182 qio (z:=.slice none 0 0) (by kernel_rfl) state
 simp only[af]at d;have g3:W.cell? ⟨g,3,none⟩=some (.map (some m)):=cell_of_row W _ 3 _ _ _ hg;have HY:=Hd hY;have HS:=Hd hS;have HE:=Hd hE;have HR:=Hd I;have HG:=Hd hg;have aw:=λx=>d (qam W x) ((qa7 W x).block m hM.lt)
 have aq:=Hd d;clear hY hS hE I hg hL hM ai G d af;refine callsIn_of_wp Tryz.func234 rfl trivial ?_ rfl;simp only[Tryz.ntmps234,List.size_toArray,List.length_cons,List.length_nil,Nat.reduceAdd,Nat.reduceSub,Array.replicate_succ,Array.replicate_zero,List.push_toArray,List.append_toArray,List.nil_append,List.cons_append]
 gi_wp2
 refine wpIn_wide.2 ?_
 (refine qap ?_;(repeat (first | go_big_quiet_step ((fail)) | quiet_step ((fail))));refine wpQuiet_nil ?_)
 intro w1 A;have au:=hJ w1 h0 A;have F:Hid ((qd2 s.es state).length=(qay s.es state).length):=by show _=_;rw[qwh,List.length_map]
 have ap:=Hd (qa3.good.bel HE.out A);have ax:=Hd ((RSl.good qad.good).bel HR.out A);have aB:=Hd (HS.out.bel A);have ag:=Hd ((Ext.kp (S:=λ_=>True) A).block g (Array.getElem?_eq_some_iff.1 HG.out).1 trivial |>.trans HG.out);have ah:w1.cell? ⟨M,0,none⟩=some (.pointer (some ⟨g,0,none⟩)):=Ext.keep A V;clear A V X g3 aw aq HG HS HE HR h0 hJ
 gi_wp2
 gi_loopw [13] (λi wr=>∃k:Nat,k<=(qd2 s.es state).length/\i = .int .i64 k/\J ((qay s.es state).take k) wr/\Kp Z w1 wr) (λi _=>(qd2 s.es state).length-(intOf i).toNat)
 case atStart=>exact⟨0,Nat.zero_le _,rfl,by simpa using au,Kp.refl _ _⟩
 obtain⟨k,hk,rfl,N,hK⟩:=hrel
 by_cases an:k<(qd2 s.es state).length
 .have ab:k<(qay s.es state).length:=by have:=F.out;omega
  obtain⟨b,ad,cs,rfl,hb,aD,hl,hr,D⟩:=((RSl.good qad.good).move ax.out hK).get k an;obtain rfl:=hr.1;have ac:(qd2 s.es state)[k]=(((qay s.es state)[k].1:Nat):Int):=by simp only[qwh,List.getElem_map]
  have g0:wr.cell? ⟨b,ad+k,none⟩=some (.int .i64 (((qay s.es state)[k].1:Nat):Int)):=by rw[<- ac];simpa using D.get 0 _
  obtain⟨⟨O,L⟩,hx⟩:∃x,x=(qay s.es state)[k]:=⟨_,rfl⟩
  rw[<- hx]at g0;replace g0:wr.cell? ⟨b,ad+k,none⟩=some (.int .i64 (O:Int)):=g0;obtain⟨b2,E,aA,rfl,aF,aH,av,aj,c⟩:=(qa3.good.move ap.out hK).get O L;obtain⟨i1,i2,i3,rfl⟩:=id aj;have q0:wr.cell? ⟨b2,E+O*3,none⟩=some (.int .i64 s.es[O].f):=by simpa using c.get 0 _
  have q1:=c.get 1 _;have q2:=c.get 2 _;have Y:=hK.block g (Array.getElem?_eq_some_iff.1 ag.out).1 am |>.trans ag.out
  have p2:wr.cell? ⟨g,2,none⟩=some (.slice (some ⟨b2,E,none⟩) s.es.length c'):=cell_of_row wr _ 2 _ _ _ Y;have pb:wr.cell? ⟨M,0,none⟩=some (.pointer (some ⟨g,0,none⟩)):=(World.cell?_of_block (a:=⟨M,0,none⟩) (hK.block M (World.block_lt_of_cell? w1 _ ah) hZ)).trans ah;obtain⟨fn,tmps,assign,body,hy,U⟩:=HY.out _ ⟨O,L⟩ wr N (by rw[List.length_take];omega);unfold qig at hy;simp only[Fin.getElem_fin]at hy;have ae:(qay s.es state).take k++[⟨O,L⟩]=(qay s.es state).take (k+1):=by rw[hx];exact(List.take_succ_eq_append_getElem ab).symm
  rw[ae]at U;clear D c hr aj hl av Y N ac ae
  gi_wp2
  refine U.mono ?_;rintro e W3 (⟨rfl,al,ao⟩ | ⟨rfl,aa⟩)
  .gi_wp2
   go_roundw
   case rel=>exact⟨k+1,by omega,by go_num,al,hK.trans ao⟩
   simp[intOf];omega
  gi_wp2
  refine bodyPost_ret (results_none rfl _ _ _) rfl ?_;exact⟨⟨_,rfl⟩,.inr ⟨_,List.take_prefix _ _,aa⟩⟩
 have ak:Hid (k=(qay s.es state).length):=by have:=F.out;show _=_;omega
 gi_wp2
 go_end0
 refine⟨⟨_,rfl⟩,.inl ⟨_,rfl,?_⟩⟩
 rwa [ak.out,List.take_length]at N
theorem qlv (n:Nat) (p:Option Addr) (state:Int) (w:World) :
  CallsIn Fence.wide n Tryz.prog 175 #[.pointer p,.int .i64 state] w λe w'=>e = .returned (.func (.func 234) #[] #[.pointer (some ⟨w.heap.size,0,none⟩),.pointer (some ⟨w.heap.size+1,0,none⟩)]) /\
   w'=(w.alloc (.cells #[.pointer p] 111)).alloc (.cells #[.int .i64 state] 3):=by
 refine callsIn_wide.2 ?_
 go_enter Tryz.func175,Tryz.ntmps175
 go_wp2_with fail
 go_ret;exact⟨rfl,rfl⟩
theorem qk7 (n:Nat) (hn:1<=n) (Z:Nat->Prop) (s:Sy) (g m Bst:Nat) (state:Int) (F:Z m) (w:World) (hS:qaz Z w g s) (u:w.cell? ⟨m,0,none⟩=some (.pointer (some ⟨g,0,none⟩))) (c:w.cell? ⟨Bst,0,none⟩=some (.int .i64 state)) :
  SeqStopsK Fence.wide n Tryz.prog 234 #[.pointer (some ⟨m,0,none⟩),.pointer (some ⟨Bst,0,none⟩)] (qig s.es) (Kp Z) (λys=>ys=qay s.es state) (λpre=>pre <+: qay s.es state) (qay s.es state).length w:=λl J I W A E L D M =>
 steps1_in n hn Z s g m Bst l state F J I D W (λW' h d=>E [] W W' none h ⟨d.os,d.tape,d.output,d.size,λk G _=>(Ext.kp (S:=λ_=>True) d).block k G trivial⟩ (λr e=>by cases e)) (hS.bel A) (Ext.keep A u) (Ext.keep A c) M
theorem kp_t {Z:Nat->Prop} {A B C:World} (h:Kp Z A B) (k:Kp Z B C):Kp Z A C:=h.trans k
theorem kp_b {Z:Nat->Prop} {w:World} (c:∀k,Z k->k<w.heap.size) (W:World) (l:Nat) (o d:Obj) (A:w.heap.size<=l) (h:W.heap[l]? = some o) (_:o.isCells=false) (_:o.isWalk=false):Kp Z W (W.putObj l d) :=
 ⟨by simp,λk u m=>World.putObj_heap_other (λe=>by have:=c k m;omega)⟩
end
section
open Go.Shelf
structure Marks (base:Nat) (ds:List Deferred) (w:World):Prop where
 all:∀d∈ds,∃r,d={ target:=.collected r,args:=#[] }/\base<=r/\w.heap[r]? = some (.deferred (some []))
 apart:ds.Nodup
theorem Marks.nil (base:Nat) (w:World):Marks base [] w:=⟨by simp,List.nodup_nil⟩
theorem Marks.cons {base:Nat} {u:List Deferred} {w w':World} (h:Marks base u w) {D:Nat} (I:w.heap.size<=D) (E:base<=D) (G:w'.heap[D]? = some (.deferred (some [])))
  (F:∀r,r<w.heap.size->w.heap[r]? = some (.deferred (some []))->w'.heap[r]? = some (.deferred (some []))):Marks base ({ target:=.collected D,args:=#[] } :: u) w':={
 all d c:=by
  rcases List.mem_cons.1 c with rfl | c
  .exact ⟨D,rfl,E,G⟩
  obtain⟨r,e,A,m⟩:=h.all d c;exact⟨r,e,A,F r (Array.getElem?_eq_some_iff.1 m).1 m⟩
 apart:=by
  rw[List.nodup_cons];refine⟨λc=>?_,h.apart⟩;obtain⟨r,e,A,m⟩:=h.all _ c;have:D=r:=by simpa using e
  have:=(Array.getElem?_eq_some_iff.1 m).1
  omega }
theorem Marks.keep {base:Nat} {c:List Deferred} {w w':World} (h:Marks base c w) (A:∀r,base<=r->w.heap[r]? = some (.deferred (some []))->w'.heap[r]? = some (.deferred (some []))):Marks base c w' :=
 ⟨λd D=>by obtain⟨r,e,m,u⟩:=h.all d D;exact⟨r,e,m,A r m u⟩,h.apart⟩
theorem Marks.leave {F:Fence} {n:Nat} {P:Program} {G:Func} {tmps:Array Value} {R:Ending->World->Prop} {u:FrameMode} (L:u≠.run) {base:Nat}:∀{m:List Deferred} {w:World},Marks base m w ->
  (∀w',Bt (λk=>base<=k/\w.heap[k]? = some (.deferred (some []))) w w'->LeavesIn F n P G tmps R [] u w')->LeavesInM F n P G tmps R m u w
 | [],w,_,h=>h w (Bt.refl _ _)
 | d :: m,w,hM,h=>by
  obtain⟨r,rfl,N,hr⟩:=hM.all d (by simp);refine⟨L,.inl ⟨r,_,rfl,run_takeDeferred hr,?_⟩⟩;have hn:=(List.nodup_cons.1 hM.apart).1
  have D:Marks base m (w.putObj r (.deferred none)):=⟨λM J=>by
   obtain⟨I,e,V,O⟩:=hM.all M (by simp[J]);have:I≠r:=λU=>hn (by subst U;rw[<- e];exact J)
   exact⟨I,e,V,(World.putObj_heap_other (λe=>this (by omega))).trans O⟩,(List.nodup_cons.1 hM.apart).2⟩
  have c:Bt (λk=>base<=k/\w.heap[k]? = some (.deferred (some []))) w (w.putObj r (.deferred none)):=⟨rfl,rfl,rfl,by simp,λk _ A=>World.putObj_heap_other (λe=>A (by subst e;exact⟨N,hr⟩))⟩
  refine Marks.leave L D λw' E=>h w' (c.trans (E.mono λk _ A=>?_))
  refine⟨A.1,?_⟩
  by_cases e:k=r
  .rw [e];exact hr
  rw[<- World.putObj_heap_other (w:=w) (o:=.deferred none) (r:=r) (k:=k) e];exact A.2
end
section

def qhz (s:Sy) (l:Int):Int:=((s.ls[l.toNat]?).map (·.g)).getD 0
def qcr (s:Sy) (l:List Int) (e:Ed):List Int:=if qhz s e.l = -1/\e.t∉l then l++[e.t] else l
def qbi (s:Sy) (is:List (Fin s.es.length)) (l:List Int):List Int:=is.foldl (λl i=>qcr s l s.es[i]) l
def qbm (s:Sy):Nat->Nat->List Int->List Int
 | 0,_,l=>l
 | f+1,i,l=>if h:i<l.length then qbm s f (i+1) (qbi s (qay s.es l[i]) l) else l
def qb0 (s:Sy) (l:List Int):Nat:=(s.es.filter λe=>decide (e.t∉l)).length
theorem qu9 {α:Type} (p q:α->Bool) (h:∀x,p x=true->q x=true):∀l:List α,(l.filter p).length<=(l.filter q).length
 | []=>by simp
 | x :: l=>by
  have:=qu9 p q h l;rw[List.filter_cons,List.filter_cons]
  by_cases c:p x=true
  .rw [if_pos c,if_pos (h x c)];simpa using this
  rw[if_neg c]
  split
  .simp only[List.length_cons];omega
  exact this
theorem qmm {α:Type} (p q:α->Bool) (h:∀x,p x=true->q x=true):∀(l:List α) (y:α),y∈l->p y=false->q y=true->(l.filter p).length<(l.filter q).length
 | x :: l,y,hy,hp,hq=>by
  rw[List.filter_cons,List.filter_cons]
  rcases List.mem_cons.1 hy with rfl | hy
  .rw [if_neg (by simp[hp]),if_pos hq,List.length_cons];exact Nat.lt_succ_of_le (qu9 p q h l)
  have:=qmm p q h l y hy hp hq
  by_cases c:p x=true
  .rw [if_pos c,if_pos (h x c)];simpa using this
  rw[if_neg c]
  split
  .simp only[List.length_cons];omega
  exact this
theorem qur (s:Sy) (l:List Int) (e:Ed) (d:e∈s.es):(qcr s l e).length+qb0 s (qcr s l e)<=l.length+qb0 s l/\l.length<=(qcr s l e).length:=by
 unfold qcr
 split
 .rename_i h
  have:=qmm (λx:Ed=>decide (x.t∉l++[e.t])) (λx:Ed=>decide (x.t∉l)) (λx c=>by
   simp only[List.mem_append,not_or,decide_eq_true_eq]at c ⊢;exact c.1) s.es e d (by simp) (by simpa using h.2)
  simp only[qb0,List.length_append,List.length_cons,List.length_nil]at this ⊢;omega
 exact⟨Nat.le_refl _,Nat.le_refl _⟩
theorem qhn (s:Sy):∀(is:List (Fin s.es.length)) (l:List Int),(qbi s is l).length+qb0 s (qbi s is l)<=l.length+qb0 s l/\l.length<=(qbi s is l).length
 | [],l=>⟨Nat.le_refl _,Nat.le_refl _⟩
 | i :: is,l=>by
  have d:=qur s l s.es[i] (List.getElem_mem _);have c:=qhn s is (qcr s l s.es[i]);exact⟨Nat.le_trans c.1 d.1,Nat.le_trans d.2 c.2⟩
def qa4 (s:Sy) (l:List Int):List Int:=qdp (qbm s (l.length+s.es.length) 0 l)
theorem qhe (s:Sy) (l:List Int):qb0 s l<=s.es.length:=List.length_filter_le _ _
end
section
open Go.Shelf
theorem qtj {P:Program} {o:Oper} {a:Act} {w:World} {K:Act->World->Prop} {Q:Exit->Act->World->Prop} (l n:Nat) (u:∀c,o.op≠.defer c) (h:Oper.wp P o a w K Q):Oper.wpIn (Fence.wide.inRound l) n P o a w K Q:=by
 unfold Oper.wp at h;unfold Oper.wpIn;refine⟨λ_ _=>trivial,?_⟩;rw[Oper.semAt_eq _ _ _ u]
 generalize (execOp a.eval o).run P w=r at h
 cases r with
 | ok x w' =>
  cases x with
  | value v=>exact h
  | skip=>exact h
  | defer d=>exact h
  | enter f args=>exact⟨λe=>by simp[Fence.wide]at e,CallsIn.inRound l (callsIn_wide.2 h)⟩
  | row row args=>exact⟨λe=>by simp[Fence.wide]at e,λc cs _=>by obtain⟨v,m,r,s⟩:=h c cs;exact⟨v,m,r,stepsIn_wide.2 s⟩⟩
  | _=>exact h.elim
 | halt e w' =>
  cases e <;> first | exact h | exact h.elim
def qlg (ops:Array Oper):Bool:=ops.all λo=>match o.op with
 | .defer _=>false
 | _=>true
theorem qr3 {d:Array Oper} (h:qlg d=true) {i:Nat} {o:Oper} (hi:d[i]? = some o):∀c,o.op≠.defer c:=by
 intro c u;obtain⟨m,A⟩:=Array.getElem?_eq_some_iff.1 hi;have:=Array.all_eq_true.1 h i m;rw[A,u]at this
 cases this
theorem qn7 {P:Program} {md:Region.Mode} {u:Array Oper} {C:World->Prop} {Q:Act->Prop} {F:Exit->Act->World->Prop} (l n:Nat) (D:qlg u=true) (hQ:∀a w,C w->Q a->F .normal a w):∀(c:Nat) (d:Array Bool) (a:Act) (w:World),C w ->
  wpAnyQ P md u C Q c d a->wpAnyIn (Fence.wide.inRound l) n P md u F c d a w
 | 0,_,_,_,hw,h=>⟨h.1,hQ _ _ hw h.2⟩
 | c+1,_,a,w,hw,h=>⟨λI=>hQ _ _ hw (h.1 I),λi hi=>by
  have A:=h.2 i hi;unfold qOp at A;unfold wpOpIn
  cases E:u[i]? with
  | none =>
   simp only[E]at A ⊢;exact qn7 l n D hQ c _ a w hw A
  | some o =>
   simp only[E]at A ⊢
   split
   .rename_i m;simp only[m,if_true]at A;exact qtj l n (qr3 D E) (Oper.wp_of_quiet hw (λG w' m=>qn7 l n D hQ c _ G w' m) A)
   rename_i m;simp only[m]at A
   exact⟨λ_ _=>trivial,qn7 l n D hQ c _ _ w hw A⟩⟩
theorem qds {P:Program} {l n:Nat} {id:Nat} {Q:Exit->Act->World->Prop} {a:Act} {w:World} {c:List Oper} (D:P.follows .mixedOrders=true) (A:qlg c.toArray=true) (m:Region.lexB .any c.toArray=true)
  (h:wpQuiet P c.toArray (λw'=>∃x,w'=qam w x) (λd=>∀w',Ext w w'->Q .normal d w') c a):(Code.region id c.toArray true).wpIn (Fence.wide.inRound l) n P Q a w:=by
 simp only[Region.lexB,Bool.and_eq_true]at m;refine wpIn_region_any D (qn7 (C:=λw'=>∃x,w'=qam w x) (Q:=λd=>∀w',Ext w w'->Q .normal d w') l n A (λd w' u h=>by obtain⟨x,rfl⟩:=u;exact h _ (qa7 w x)) _ _ _ _ ⟨_,(qms (Ext.refl w).drew).symm⟩ ?_);have:=wpAnyQ_lex (C:=λw'=>∃x,w'=qam w x) (md:=.any) m.1 c 0 (Array.replicate c.toArray.size false) a (by simp) (by simpa using m.2) h;simpa using this
theorem qab.int {base:Nat} {e:TypeId} {T T':Nat->Prop} {w:World} {xs:List Int} {v:Value} (h:qab qad 1 e base T w xs v):qab qad 1 e base T' w xs v:=by
 obtain⟨news,d,c⟩:=h;exact⟨news,d,c.imp λx _ cs h=>h⟩
theorem qab.i64 {base:Nat} {e:TypeId} {T:Nat->Prop} {w:World} {xs:List Int} {v:Value} (h:qab qad 1 e base T w xs v):∀x∈xs,I64 x:=by
 obtain⟨news,d,c⟩:=h;exact c.ints.2
theorem qab.bt {α:Type} {R:Rdr α} {k base:Nat} {e:TypeId} {T:Nat->Prop} {w w':World} {xs:List α} {v:Value} (h:qab R k e base T w xs v) (M:Good R k) {Z:Nat->Prop} (m:Bt Z w w')
  (F:∀b,b<w.heap.size->Z b->¬ T b/\v.ownBlock≠some b):qab R k e base T w' xs v:=by
 obtain⟨news,G,J⟩:=h;refine⟨news,?_,J.imp λx _ cs L=>M.move L ⟨m.size,λb d D=>m.block b d λE=>(F b d E).1 D.1⟩⟩;refine⟨G.1,G.2.imp id ?_⟩;rintro⟨g,u,A,rfl,N,I,h⟩;have c:=(Array.getElem?_eq_some_iff.1 I).1;exact⟨g,u,A,rfl,N,(m.block g c λE=>(F g c E).2 rfl).trans I,h⟩
theorem qab.base {α:Type} {R:Rdr α} {k base base':Nat} {e:TypeId} {T:Nat->Prop} {w:World} {xs:List α} {v:Value} (h:qab R k e base T w xs v) (u:base'<=base):qab R k e base' T w xs v:=by
 obtain⟨news,m,A⟩:=h;refine⟨news,⟨m.1,m.2.imp id ?_⟩,A⟩;rintro⟨g,c,d,rfl,D,h⟩;exact⟨g,c,d,rfl,Nat.le_trans u D,h⟩
theorem qab.not_def {α:Type} {R:Rdr α} {k base:Nat} {e:TypeId} {T:Nat->Prop} {w:World} {xs:List α} {v:Value} (h:qab R k e base T w xs v) {r:Nat} {o:Option (List Deferred)} (hr:w.heap[r]? = some (.deferred o)):v.ownBlock≠some r:=by
 obtain⟨news,A,D⟩:=h;intro d
 rcases A.2 with⟨rfl,_⟩ | ⟨g,m,u,rfl,E,c,_⟩
 .simp [Value.ownBlock]at d
 have:g=r:=by simpa[Value.ownBlock]using d
 subst this;rw[hr]at c
 cases c
theorem qaz.mono {S S':Nat->Prop} {W:World} {g:Nat} {s:Sy} (h:qaz S W g s) (hs:∀b,b<W.heap.size->S b->S' b):qaz S' W g s:=by
 obtain⟨v,u,m,f,d,A,F,I,J,c,G,D⟩:=h.ex;exact⟨v,u,m,f,d,qaa.good.mono A hs,qa3.good.mono F hs,hs g (Array.getElem?_eq_some_iff.1 d).1 I,hs m c.lt J,c,G,λn x E=>(RSl.good qad.good).mono (D n x E) hs⟩
theorem qxu {A B:World} (h:Ext A B):A.grownBy B none:=⟨h.os,h.tape,h.output,h.size,λk c _=>(Ext.kp (S:=λ_=>True) h).block k c trivial⟩
theorem qfu {A B:World} (h:Ext A B) (n:Nat):KeepsFrom n A B:=⟨h.size,λk o _ c _=>((Ext.kp (S:=λ_=>True) h).block k (Array.getElem?_eq_some_iff.1 c).1 trivial).trans c⟩
theorem qqc {F:Fence} {n:Nat} {P:Program} (w:World) {E:Array Oper} {rest:List Oper} {o:Oper} {a:Act} {Q:Exit->Act->World->Prop}
  (L:o.guard=none) (s x:Operand) (t:TypeId) (d:o.op=Op.call { callee:=Callee.builtin Builtin.append,args:=#[s,x],argTypes:=#[t,t] })
  (base:Nat) (e:TypeId) (i:TypeInfo) (z:Value) (size bytes:Nat) (h1:P.underlying t=some (.slice e)) (h2:P.info? e=some i) (h3:i.zero=some z) (h4:i.size=size) (h5:i.bytes=bytes) (h6:z.cells.size=size) (h7:0<size)
  (v:Value) (k:Nat) (xs:List Value) (hs:a.eval s=v) (hown:w.ownsRow base e size v k xs) (ad:Addr) (m c:Nat) (news:List Value) (hx:a.eval x = .slice (some ad) m c) (hn:news.length=m*size)
  (hc:∀j u,news[j]? = some u->w.cell? (ad.add j)=some u) (h1c:∀u∈news,u.oneCell'=true) (b1:k+m<=maxLen) (b2:(k+m)*bytes<=140737488355328) (b3:base<=w.heap.size)
  (hK:∀A w',w'.ownsRow base e size A (k+m) (xs++news)->w.grownBy w' v.ownBlock->(A.ownBlock=v.ownBlock\/A.ownBlock=some w.heap.size)->wpListIn F n P E Q rest (a.put o.dst A) w') :
  wpListIn F n P E Q (o :: rest) a w:=by
 refine wpListIn_plain L λK G=>?_
 obtain⟨A,w',D,N,M,_,J⟩:=run_append_own_at (P:=P) w base t o.type e i z size bytes h1 h2 h3 h4 h5 h6 h7 v k xs hown ad m c news hn hc h1c b1 b2 b3;unfold Oper.wpIn;refine⟨?_,?_⟩
 .simp [Oper.about,d,resolve,Target.leads,Sem.run_pure]
 rw[Oper.semAt_plain F _ _ (by rw[d];intro c I;cases I)];simp[execOp,d,resolve,invoke,builtin,hs,hx,D,Result.andThen];exact G _ _ (hK A w' N M J)
theorem qnt {X m:World} {base nb:Nat} {xs:List Int} {t:Int} {u d:Value} (hi:∀x∈xs,I64 x) (G:I64 t) (E:Boxed X nb 53 u) (A:X.ownsRow base 3 1 u xs.length (xs.map (Value.int .i64)))
  (c:m.ownsRow base 3 1 d (xs.length+1) (xs.map (Value.int .i64)++[.int .i64 t])) (F:(X.alloc (.cells #[.int .i64 t] 3)).grownBy m u.ownBlock) :
  Boxed m nb 53 u/\Boxed (m.setCell ⟨nb,0,none⟩ d) nb 53 d/\qab qad 1 3 base (λ_=>False) (m.setCell ⟨nb,0,none⟩ d) (xs++[t]) d/\Bt (λb=>b=nb\/u.ownBlock=some b) X (m.setCell ⟨nb,0,none⟩ d):=by
 have D:Boxed m nb 53 u:=(E.alloc _).kept F (E.not_row (by decide) A);refine⟨D,D.set d,⟨(xs++[t]).map (Value.int .i64),?_,Flat.of_ints λx I=>?_⟩,?_⟩
 .rw [List.length_append,List.map_append];exact c.kept (grownBy_setCell' m nb d) (.inr (D.not_row (by decide) c).symm)
 .rcases List.mem_append.1 I with h | h
  .exact hi x h
  rw[List.mem_singleton.1 h];exact G
 exact((Bt.alloc (Bt.refl _ _) _).trans ((Bt.of_grown F).mono λk _ h=>.inr h.symm)).set (p:=⟨nb,0,none⟩) (.inr (.inl rfl)) d
theorem qi5 {β:Type} (Z:Nat->Prop) (W0:World):OwnFrom W0.heap.size (λ(_:β) W=>Bt Z W0 W):=by
 intro _ X Y r h c hr;exact⟨c.os.trans h.os,c.tape.trans h.tape,c.output.trans h.output,Nat.le_trans h.size c.size,λk d m=>(c.block k (Nat.lt_of_lt_of_le d h.size) λe=>by have:=(hr k e.symm).1;omega).trans (h.block k d m)⟩
theorem map_own {β κ:Type} [DecidableEq κ] {K:κ->Value} {m B:Nat} (d:m<B) (f:β->κ->Option Value):OwnFrom B (λs W=>IsMap K W m (f s)):=by
 intro s X Y r h c hr;exact h.move (c.block m h.lt λe=>by have:=(hr m e.symm).1;omega)
structure qel {α:Type} (nb base:Nat) (vk0:Value) (W0:World) (row:List α->List Int) (pre:List α) (W:World):Prop where
 bt:Bt (λb=>b=nb\/vk0.ownBlock=some b) W0 W
 row:∃vk,Boxed W nb 53 vk/\qab qad 1 3 base (λ_=>False) W (row pre) vk/\(vk.ownBlock=vk0.ownBlock\/∀b,vk.ownBlock=some b->W0.heap.size<=b)
section
variable {α:Type} {nb base:Nat} {vk0:Value} {W0:World} {row:List α->List Int} {pre:List α} {W W':World}
theorem qel.start (d:Boxed W0 nb 53 vk0) (c:qab qad 1 3 base (λ_=>False) W0 (row []) vk0):qel nb base vk0 W0 row [] W0:=⟨Bt.refl _ _,vk0,d,c,.inl rfl⟩
theorem qsj (U:nb<W0.heap.size):OwnFrom W0.heap.size (qel nb base vk0 W0 row):=by
 intro pre X Y r h u hr;have D:∀q,q<X.heap.size->q<W0.heap.size->Y.heap[q]? = X.heap[q]?:=λq m A=>u.block q m λe=>by have:=(hr q e.symm).1;omega
 have c:∀(q:Nat) (o:Obj),X.heap[q]? = some o->o.isCells=true->Y.heap[q]? = some o:=λq o m A=>(u.block q (Array.getElem?_eq_some_iff.1 m).1 λe=>by
  obtain⟨_,o',E,F⟩:=hr q e.symm;rw[m]at E
  cases E
  rw[A]at F
  cases F).trans m
 obtain⟨O,m,⟨news,A,E⟩,F⟩:=h.row;refine⟨⟨u.os.trans h.bt.os,u.tape.trans h.bt.tape,u.output.trans h.bt.output,Nat.le_trans h.bt.size u.size,λk L V=>(D k (Nat.lt_of_lt_of_le L h.bt.size) L).trans (h.bt.block k L V)⟩,O,c _ _ m rfl,⟨news,⟨A.1,A.2.imp id ?_⟩,E.imp λ_ _ _ M=>M⟩,F⟩;rintro⟨N,I,J,rfl,G,hh,d⟩;exact⟨N,I,J,rfl,G,c _ _ hh rfl,d⟩
theorem qel.move (h:qel nb base vk0 W0 row pre W) (c:Ext W W'):qel nb base vk0 W0 row pre W':=by
 obtain⟨A,d,m,u⟩:=h.row;exact⟨h.bt.ext c,A,((Ext.kp (S:=λ_=>True) c).block _ d.lt trivial).trans d,m.ext qad.good c,u⟩
theorem qel.same (h:qel nb base vk0 W0 row pre W) (c:Ext W W') {x:α} (hr:row (pre++[x])=row pre):qel nb base vk0 W0 row (pre++[x]) W':=by
 obtain⟨A,d,m,u⟩:=h.row;refine⟨h.bt.ext c,A,((Ext.kp (S:=λ_=>True) c).block _ d.lt trivial).trans d,?_,u⟩;rw[hr];exact m.ext qad.good c
theorem qel.push {m D:Value} {J:World} {t:Int} (h:qel nb base vk0 W0 row pre W) (hb:Boxed W nb 53 m) (E:qab qad 1 3 base (λ_=>False) W (row pre) m) (c:m.ownBlock=vk0.ownBlock\/∀b,m.ownBlock=some b->W0.heap.size<=b)
  (V:I64 t) (d:J.ownsRow base 3 1 D ((row pre).length+1) ((row pre).map (Value.int .i64)++[.int .i64 t])) (Y:(W.alloc (.cells #[.int .i64 t] 3)).grownBy J m.ownBlock) (M:D.ownBlock=m.ownBlock\/D.ownBlock=some (W.heap.size+1))
  {x:α} (hr:row (pre++[x])=row pre++[t]):qel nb base vk0 W0 row (pre++[x]) (J.setCell ⟨nb,0,none⟩ D):=by
 obtain⟨news,G,hF⟩:=E;obtain⟨rfl,hi⟩:=hF.ints;obtain⟨p1,U,X,F⟩:=qnt hi V hb G d Y;have A:=h.bt.size;refine⟨⟨F.os.trans h.bt.os,F.tape.trans h.bt.tape,F.output.trans h.bt.output,Nat.le_trans A F.size,λk N O=>(F.block k (Nat.lt_of_lt_of_le N A) λL=>O ?_).trans (h.bt.block k N O)⟩,D,U,by rw[hr];exact X,?_⟩
 .rcases L with e | e
  .exact .inl e
  rcases c with I | I
  .exact .inr (I ▸ e)
  exact absurd (I k e) (by omega)
 rcases M with e | e
 .rw [e];exact c
 refine .inr λb u=>?_
 rw[e]at u
 cases u
 omega
theorem qku {A B:World} {Z:Nat->Prop} (h:Bt Z A B) (n:Nat) (u:∀k o,n<=k->Z k->A.heap[k]? = some o->o.isCells=true):KeepsFrom n A B :=
 ⟨h.size,λk o hn c m=>(h.block k (Array.getElem?_eq_some_iff.1 c).1 λd=>by rw[u k o hn d c]at m;cases m).trans c⟩
theorem qut {base size n:Nat} {e:TypeId} {v:Value} {xs:List Value} (h:W.ownsRow base e size v n xs) {k:Nat} {o:Obj} (d:v.ownBlock=some k) (c:W.heap[k]? = some o):o.isCells=true:=by
 rcases h.2 with⟨rfl,_⟩ | ⟨g,m,u,rfl,_,A,_⟩
 .simp [Value.ownBlock]at d
 obtain rfl:g=k:=by simpa[Value.ownBlock]using d
 rw[A]at c
 cases c
 rfl
theorem qsl {A F:Value} {u:World} {t:Int} {xs:List Int} (G:Boxed W nb 53 A) (m:qab qad 1 3 base (λ_=>False) W xs A)
  (J:I64 t) (d:u.ownsRow base 3 1 F (xs.length+1) (xs.map (Value.int .i64)++[.int .i64 t])) (M:(W.alloc (.cells #[.int .i64 t] 3)).grownBy u A.ownBlock)
  (n:Nat) {Z:Nat->Prop} (L:∀k,k<W.heap.size->Z k->¬ (k=nb\/A.ownBlock=some k)):KeepsFrom n W (u.setCell ⟨nb,0,none⟩ F)/\Kp Z W (u.setCell ⟨nb,0,none⟩ F):=by
 obtain⟨news,c,N⟩:=m;obtain⟨rfl,hi⟩:=N.ints;obtain⟨O,U,V,I⟩:=qnt hi J G c d M;refine⟨qku I n λk o _ E D=>?_,I.kp L⟩
 rcases E with rfl | E
 .rw [show W.heap[k]? = _ from G]at D
  cases D
  rfl
 exact qut c E D
end
end
end Go.Proofs.YtegenalcheooeaaGreat
