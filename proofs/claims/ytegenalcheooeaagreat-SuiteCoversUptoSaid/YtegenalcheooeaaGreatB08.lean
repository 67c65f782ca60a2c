/- Of the proof of a law of the suites: SortS, Accepts, After, OpenA, SayB. -/
import Derived.Test.YtegenalcheooeaaGreatB05
import Derived.Test.YtegenalcheooeaaGreatB07
import Derived.Test.YtegenalcheooeaaGreatLaid
import Derived.Shelf.SlGeneric
import Derived.Shelf.SlSortCmp.Whole1
import Derived.Shelf.SlSortCmp.NoneTotal
import Derived.Lib.OwnBridge
import Derived.Test.YtegenalcheooeaaGreatRows
import Derived.ProofKit
import Derived.OpenShut
import Derived.JoinedCond
import Derived.Deep.Strs
import Derived.ChangeStays
import Derived.ChangeBook
set_option linter.unusedSectionVars false
set_option linter.unusedSimpArgs false
set_option linter.unusedVariables false
namespace Go.Proofs.YtegenalcheooeaaGreat
open Go.RowKit
attribute [local go_sem] cell?_exto
set_option maxHeartbeats 16000000
set_option maxRecDepth 100000
section
open Go.Shelf Go.Sort Go.Lib
theorem qwe (w:World) (os:Array Obj):w.grownBy (grow w os) none:=⟨rfl,rfl,rfl,by simp[grow],λk c _=>by simp[grow,Array.getElem?_append_left c]⟩
theorem qtc {a b:World} (h:qag a b):∃q os,b=grow (a.drewN q) os:=by
 refine⟨b.drawn-a.drawn,b.heap.extract a.heap.size b.heap.size,?_⟩;obtain⟨d,bt,J,E,F⟩:=b;obtain⟨u,m,G,I,D⟩:=a;obtain⟨⟨e1,e2,e3,e4,e5⟩,e6⟩:=h;simp only at e1 e2 e3 e4 e5 e6;subst e1 e2 e3;simp only[grow,World.drewN,World.mk.injEq,true_and,and_true];refine⟨?_,by omega⟩
 apply Array.ext_getElem?
 intro k
 by_cases c:k<u.size
 .rw [Array.getElem?_append_left c];exact e5 k c
 rw[Array.getElem?_append_right (by omega),Array.getElem?_extract]
 by_cases A:k<d.size
 .rw [if_pos (by omega)]
  congr 1
  omega
 rw[if_neg (by omega),Array.getElem?_eq_none (by omega)]
theorem swo_of {α β:Type} {cf:α->α->Int} (h:qda cf) (f:β->α):SWO (ltOf λx y=>cf (f x) (f y)):={
 irrefl x:=by simp[ltOf,h.refl]
 trans x y z h1 h2:=by
  simp only[ltOf,decide_eq_true_eq]at *;exact h.trans _ _ _ h1 h2
 ntrans x y z h1 h2:=by
  simp only[ltOf,decide_eq_false_iff_not,Int.not_lt]at *
  by_cases e1:cf (f x) (f y)=0
  .rw [h.eq _ _ e1];exact h2
  have d:=(h.sgn (f y) (f x)).2 (by omega)
  by_cases c:cf (f x) (f z)<0
  .have:=h.trans _ _ _ d c;omega
  omega }
section
variable {α:Type} [Inhabited α]
theorem qme (enc:α->Value) (w:World) (g n:Nat) (d:Array α) (os:Array Obj):w.grownBy (sortWorld enc w g 0 n d os) (some g):=by
 refine⟨rfl,rfl,rfl,by simp[sortWorld,grow,putRow,mapBlock,Sort.ahead],λk u m=>?_⟩;have c:k<(putRow enc (Sort.ahead w n) g 0 d).heap.size:=by simpa[putRow,mapBlock,Sort.ahead]using u
 have:g≠k:=λe=>m (by rw[e])
 unfold sortWorld;simp only[grow,Array.getElem?_append_left c];simp[putRow,mapBlock,Sort.ahead,Array.getElem?_modify,this]
theorem qyv {enc:α->Value} {w:World} {base:Nat} {e:TypeId} {g n c q:Nat} {m ys:List α} {os:Array Obj} (h:w.ownsRow base e 1 (.slice (some ⟨g,0,none⟩) n c) n (m.map enc)) (hy:ys.length=n) :
  (sortWorld enc w g 0 q ys.toArray os).ownsRow base e 1 (.slice (some ⟨g,0,none⟩) n c) n (ys.map enc):=by
 have d:=ownsRow_putRow (q:=q) h hy (Nat.le_refl n);rw[<- hy,List.take_length,hy]at d;exact d.kept (qwe _ os) (.inr (by simp[Value.ownBlock]))
end
abbrev SE (S:Nat->Prop) (w:World):Type:={ p:List Lb×Value // qaa S w p.1 [p.2] }
instance (S:Nat->Prop) (w:World):Inhabited (SE S w):=⟨⟨([],.slice none 0 0),none,0,rfl,Nat.le_refl _,by decide,.inl rfl⟩⟩
theorem flat_se {S:Nat->Prop} {w:World}:∀{l:List (List Lb)} {cs:List Value},Flat qaa 1 S w l cs->∃c:List (SE S w),c.map (λp=>p.1.1)=l/\c.map (λp=>p.1.2)=cs
 | [],cs,h=>⟨[],rfl,(show cs=[] from h).symm⟩
 | x :: l,cs,⟨c1,c2,h1,h2,h3,h4⟩=>by
  obtain⟨c,e1,e2⟩:=flat_se h4
  match c1,h2 with
  | [u],_=>exact⟨⟨(x,u),h3⟩ :: c,by rw[List.map_cons,e1],by rw[List.map_cons,e2,h1];rfl⟩
theorem se_flat {S S':Nat->Prop} {w w':World} (d:∀x u,qaa S w x [u]->qaa S' w' x [u]):∀c:List (SE S w),Flat qaa 1 S' w' (c.map λp=>p.1.1) (c.map λp=>p.1.2)
 | []=>rfl
 | p :: c=>⟨[p.1.2],c.map (λp=>p.1.2),rfl,rfl,d _ _ p.2,se_flat d c⟩
theorem eg143:∀args w,(callFunc 143 args).run Tryz.prog w = .ok (.enter 143 args) w:=enters_of Tryz.func143 (by kernel_rfl) rfl
theorem qfe:qda qez:=ordL qbe
def qch (l:List (List Lb)):List (List Lb):=qdi qez l
theorem qrl (base:Nat) (T:Nat->Prop) (l:List (List Lb)) (v:Value) (w:World) (L:qab qaa 1 22 base T w l v) (ad:l.length<4611686018427387904) :
  Calls Tryz.prog 142 #[v,.func (.func 143) #[] #[]] w λe w'=>e = .returned (.tuple #[])/\qab qaa 1 22 base T w' (qch l) v/\Bt (λb=>v.ownBlock=some b) w w':=by
 obtain⟨news,A,hF⟩:=L
 by_cases hv:v = .slice none 0 0
 .subst hv
  have V:l=[]:=by
   rcases A.2 with⟨_,h⟩ | ⟨g,E,ae,h,_⟩
   .exact List.length_eq_zero_iff.1 h
   cases h
  subst V;refine(AnyF.slices_SortFunc_none Tryz.lays142n none 0 _ w).mono ?_;rintro e w' ⟨rfl,rfl⟩;exact⟨rfl,qab.nil ..,Bt.refl _ _⟩
 obtain⟨g,E,rfl⟩:∃g E,v = .slice (some ⟨g,0,none⟩) l.length E:=by
  rcases Joins.ownsRow_forms A with⟨h,_⟩ | h
  .exact absurd h hv
  exact h
 rw[qgd]at hF;obtain⟨d,rfl,rfl⟩:=flat_se hF;have ab:=(qcb A g rfl).2;have hn:(d.map λp=>p.1.1).length=d.length:=List.length_map ..;have F:w.ownsRow base 22 1 (.slice (some ⟨g,0,none⟩) d.length E) d.length (d.map λp=>p.1.2):=by rw[<- hn];exact A
 obtain⟨D,ac,he,_,_,_,_,_,hH⟩:=holds_of_ownsRow (enc:=λp:SE (λb=>T b/\b≠g) w=>p.1.2) F (by simp);have U:D=g:=by injection he with h1;injection h1 with h1;injection h1 with h1;exact h1.symm
 subst U;have G:d.toArray.size=d.length:=by simp
 have N:CmpLays1 Tryz.prog 143 #[] (λp:SE (λb=>T b/\b≠D) w=>p.1.2) (λx y=>qez x.1.1 y.1.1) D 0 d.toArray.size w:=λm os dk hs x y=>by
  have J:Kp (λb=>T b/\b≠D) w (sortWorld (λp:SE (λb=>T b/\b≠D) w=>p.1.2) w D 0 m dk os) :=
   (Kp.grown (qme _ w D m dk os)).mono λk _ h e=>h.2 (by injection e)
  refine(sets_c (λb=>T b/\b≠D) x.1.1 y.1.1 x.1.2 y.1.2 _ (qaa.good.move x.2 J) (qaa.good.move y.2 J)).mono ?_;rintro e w' ⟨rfl,h⟩;exact⟨rfl,qtc h⟩
 have h:=Any.slices_SortFunc Tryz.lays142 (λp:SE (λb=>T b/\b≠D) w=>p.1.2) (λp=>p.2.oneCell) (λx y=>qez x.1.1 y.1.1) (swo_of qfe _) 143 #[] D 0 E d.toArray w eg143 N hH ab (by rw[G];omega);rw[G]at h;rw[hn];refine h.mono ?_;rintro e w' ⟨rfl,c,n,os,hp,hs,rfl⟩;refine⟨rfl,?_,(Bt.of_grown (qme _ w D n c os)).mono λk _ J=>by injection J with J;rw[J];rfl⟩;have M:c.size=d.length:=by rw[hp.1,G]
 have I:(c.toList.map λp=>p.1.1).Perm (d.map λp=>p.1.1):=by
  have h3:=hp.2.2;rw[<- M,Array.extract_size]at h3;have h4:(d.toArray.extract 0 c.size).toList=d:=by rw[M,<- G,Array.extract_size]
  rw[h4]at h3;exact h3.map _
 have O:Srt qez (c.toList.map λp=>p.1.1):=by
  rw[Srt,List.pairwise_map,List.pairwise_iff_getElem];intro i j hi hj X;have h5:=hs i j (Nat.zero_le _) X (by rw[<- M];simpa using hj);simp only[ltOf,decide_eq_false_iff_not,Int.not_lt]at h5;rw[getElem!_pos c i (by simpa using hi),getElem!_pos c j (by simpa using hj)]at h5;have h6:=qfe.sgn c[i].1.1 c[j].1.1;have h7:=qfe.sgn c[j].1.1 c[i].1.1;simp only[Array.getElem_toList];omega
 have aa:qch (d.map λp=>p.1.1)=c.toList.map λp=>p.1.1:=(qrt qfe I O).symm
 rw[aa];have Y:=qme (λp:SE (λb=>T b/\b≠D) w=>p.1.2) w D n c os;have ho:=qyv (q:=n) (os:=os) F (ys:=c.toList) (by simpa using M);refine⟨c.toList.map λp=>p.1.2,?_,?_⟩
 .rw [List.length_map,show c.toList.length=d.length from by simpa using M];simpa using ho
 rw[qgd];exact se_flat (λx u hx=>qaa.good.move hx ((Kp.grown Y).mono λk _ h e=>h.2 (by injection e))) _
end
section
open Go.Shelf
attribute [local go_sem] Oper.semAt_some
def qi1 (s:Sy) (n:Int) (j:Fin s.es.length):Bool:=decide (s.es[j].l=n) && qev s s.es[j].l (λy=>qat y.g)
def qfq (s:Sy) (p:Int->Bool) (pre:List (Fin s.es.length)) (n:Int):Bool:=p n || pre.any (qi1 s n)
def qdw (s:Sy) (sts:List Int) (n:Int):Bool:=sts.any λst=>(qay s.es st).any (qi1 s n)
def qbp (p:Int->Bool):Nat->List Lb->List Lb
 | _,[]=>[]
 | i,x :: xs=>if p i then x :: qbp p (i+1) xs else qbp p (i+1) xs
def qbo (s:Sy) (st:Int):List Lb:=qbp (qdw s (qa4 s [st])) 0 s.ls
theorem qtb (p:Int->Bool):∀(xs ys:List Lb) (i:Nat),qbp p i (xs++ys)=qbp p i xs++qbp p (i+xs.length) ys
 | [],ys,i=>by simp[qbp]
 | x :: xs,ys,i=>by
  have h:=qtb p xs ys (i+1);rw[List.cons_append,qbp,qbp,h,List.length_cons,show i+1+xs.length=i+(xs.length+1) from by omega]
  split <;> rfl
theorem qxt (p:Int->Bool) (xs:List Lb) (k:Nat) (h:k<xs.length):qbp p 0 (xs.take (k+1))=if p k then qbp p 0 (xs.take k)++[xs[k]] else qbp p 0 (xs.take k):=by
 rw[List.take_succ_eq_append_getElem h,qtb,List.length_take,Nat.min_eq_left (by omega),Nat.zero_add,qbp,qbp]
 split <;> simp
theorem qq1 (p:Int->Bool):∀(i:Nat) (xs:List Lb),(qbp p i xs).length<=xs.length
 | _,[]=>by simp[qbp]
 | i,x :: xs=>by
  have:=qq1 p (i+1) xs;rw[qbp]
  split <;> simp only[List.length_cons] <;> omega
theorem accL_len (s:Sy) (c:Int):(qbo s c).length<=s.ls.length:=qq1 _ _ _
theorem qwn (s:Sy) (p:Int->Bool) (pre:List (Fin s.es.length)) (j:Fin s.es.length) (n:Int):qfq s p (pre++[j]) n=(qfq s p pre n || qi1 s n j):=by simp[qfq,Bool.or_assoc]
theorem qy1 (s:Sy) (c:List Int) (d:Int) (n:Int):qdw s (c++[d]) n=qfq s (qdw s c) (qay s.es d) n:=by simp[qdw,qfq]
def fB (p:Int->Bool) (n:Int):Option Value:=if p n then some (.bool true) else none
theorem fB_get (p:Int->Bool) (n:Int):(fB p n).getD (.bool false) = .bool (p n):=by
 unfold fB
 split
 .rename_i h;rw[h];rfl
 rename_i h;rw[eq_false_of_ne_true h];rfl
theorem fB_same (s:Sy) (p:Int->Bool) (pre:List (Fin s.es.length)) (j:Fin s.es.length) (h:qev s s.es[j].l (λy=>qat y.g)=false):fB (qfq s p (pre++[j]))=fB (qfq s p pre):=by
 funext n
 unfold fB;rw[qwn,qi1,h,Bool.and_false,Bool.or_false]
theorem fB_add (s:Sy) (p:Int->Bool) (pre:List (Fin s.es.length)) (j:Fin s.es.length) (h:qev s s.es[j].l (λy=>qat y.g)=true):fB (qfq s p (pre++[j]))=λn=>if n=s.es[j].l then some (.bool true) else fB (qfq s p pre) n:=by
 funext n
 unfold fB;rw[qwn,qi1,h,Bool.and_true]
 by_cases e:n=s.es[j].l
 .simp [e]
 have c:¬ s.es[j].l=n:=λh=>e h.symm
 rw[decide_eq_false c,Bool.or_false,if_neg e]
theorem qe7 (w:World) (cs:Array Value) (t:TypeId):∀j u,cs.toList[j]? = some u->(w.alloc (.cells cs t)).cell? ((⟨w.heap.size,0,none⟩:Addr).add j)=some u:=λj u h=>by
 rw[Addr.add_lit,Nat.zero_add];exact(cell_of_row _ _ j _ _ _ (World.alloc_heap_new w _)).trans (by simpa using h)
def LbPost (T:Nat->Prop) (base:Nat) (r:List Lb) (w:World) (e:Ending) (w':World):Prop:=∃A c,e = .returned (.slice A r.length c)/\qab RLb 2 61 base T w' r (.slice A r.length c)/\Ext w w'
theorem qot (S:Nat->Prop) (s:Sy) (aq:qah s) (g:Nat) (st:Int) (w:World) (ac:I64 st) (hS:qaz S w g s) :
  Calls Tryz.prog 141 #[.pointer (some ⟨g,0,none⟩),.int .i64 st] w (LbPost (λq=>S q/\q<w.heap.size) w.heap.size (qbo s st) w):=by
 have HS:=Hd hS;clear hS;have bV:=@run_makeMap Tryz.prog;refine(callsIn_wide (n:=3)).1 ?_;refine callsIn_of_wp_marks Tryz.func141 rfl trivial ?_ rfl;simp only[Tryz.ntmps141,List.size_toArray,List.length_cons,List.length_nil,Nat.reduceAdd,Nat.reduceSub,Array.replicate_succ,Array.replicate_zero,List.push_toArray,List.append_toArray,List.nil_append,List.cons_append]
 gi_wp2_with fail
 obtain⟨Wa,U⟩:=nm (((w.alloc (.cells #[.pointer (some ⟨g,0,none⟩)] 111)).alloc (.map #[] 0)).alloc (.cells #[.map (some (w.heap.size+1))] 240));have a2:Ext w Wa:=by rw[<- U];exact(((Ext.refl w).alloc _).alloc _).alloc _
 have aK:Boxed Wa w.heap.size 111 (.pointer (some ⟨g,0,none⟩)):=by rw[<- U];exact((Boxed.new w 111 _).alloc _).alloc _
 have aF:IsMap (Value.int .i64) Wa (w.heap.size+1) (fB (qdw s [])):=by
  rw[<- U];have h:=IsMap.new (Value.int .i64) (w.alloc (.cells #[.pointer (some ⟨g,0,none⟩)] 111));rw[World.size_alloc]at h;have e:fB (qdw s [])=λ_=>none:=by funext n;simp[fB,qdw]
  rw[e];exact h.move (Below.heap_alloc _ _ _ (by simp))
 have aL:Boxed Wa (w.heap.size+2) 240 (.map (some (w.heap.size+1))):=by
  rw[<- U];have h:=Boxed.new ((w.alloc (.cells #[.pointer (some ⟨g,0,none⟩)] 111)).alloc (.map #[] 0)) 240 (.map (some (w.heap.size+1)))
  rwa [World.size_alloc,World.size_alloc]at h
 have aY:Wa.heap.size=w.heap.size+3:=by rw[<- U];simp
 have aR:=(qnx (λ_=>True) s aq g [st] _ _ ((HS.out.mono λ_ _ _=>trivial).bel (a2.trans' ((Ext.refl Wa).alloc _))) (qns Wa st ac trivial) (by simp)).mono λe w' h=>qhf.at h (b':=w.heap.size+4) (by simp;omega)
 rw[U];rw[aY]at aR;clear U;refine⟨trivial,?_⟩
 gi_at_call 208
 refine(callsIn_wide.2 aR).mono ?_;rintro e w1 ⟨At,ct,rfl,aI,aD⟩;obtain⟨ts,I⟩:=nm (qa4 s [st]);have aH:ts.length<=200000:=by rw[<- I];have:=qkx s [st];have:=qhe s [st];have:=aq.2.2.2.1;simp only[List.length_cons,List.length_nil]at *;omega
 have au:Hid (qbo s st=qbp (qdw s ts) 0 s.ls):=by show _=_;rw[qbo,I]
 rw[I]at aI ⊢;clear I aR;have ak:Ext Wa w1:=((Ext.refl Wa).alloc _).trans' aD;have aU:Ext w w1:=a2.trans' ak;have aV:w.heap.size+4<=w1.heap.size:=by have:=aD.size;simp at this;omega
 have a3:=Hd ((Ext.kp (S:=λ_=>True) ak).block _ aK.lt trivial |>.trans aK:Boxed w1 w.heap.size 111 _);have bb:=Hd (aF.move ((Ext.kp (S:=λ_=>True) ak).block _ aF.lt trivial));have aZ:=Hd ((Ext.kp (S:=λ_=>True) ak).block _ aL.lt trivial |>.trans aL:Boxed w1 (w.heap.size+2) 240 _);have al:=Hd aI;clear aI aK aF aL aD
 gi_wp2_with fail
 refine wpIn_loop (λa' wr=>∃u7 u19 u20 u21 u22 u23 u24 u25 u41:Value,∃(ds:List Deferred),(∃(k:Nat),u19=Value.int .i64 (k:Int)/\k<=ts.length/\Boxed wr w.heap.size 111 (.pointer (some ⟨g,0,none⟩))/\Boxed wr (w.heap.size+2) 240 (.map (some (w.heap.size+1)))/\IsMap (Value.int .i64) wr (w.heap.size+1) (fB (qdw s (ts.take k)))/\qab qad 1 3 (w.heap.size+4) (λ_=>False) wr ts (.slice At ts.length ct) /\
   Marks (w.heap.size+4) ds wr/\Ext w wr) /\
   a'={ tmps:=#[Value.pointer (some ⟨g,0,none⟩),Value.int .i64 st,Value.pointer (some ⟨w.heap.size,0,none⟩),undef,Value.slice none 0 0,Value.pointer (some ⟨w.heap.size+2,0,none⟩),undef,u7,undef,undef,undef,undef,undef,Value.map (some (w.heap.size+1)),Value.pointer (some ⟨g,0,none⟩),Value.int .i64 st,Value.slice (some ⟨w.heap.size+3,0,none⟩) 1 1,Value.slice At ts.length ct,Value.int .i64 (ts.length:Int),u19,u20,u21,u22,u23,u24,u25,undef,undef,undef,undef,undef,undef,undef,undef,undef,undef,undef,undef,undef,undef,undef,u41,undef,undef,undef,undef,undef,undef,undef,undef,undef,undef,undef,undef,undef,undef,undef,undef,undef,undef,undef,undef],defers:=ds })
  (λa' _=>ts.length-(intOf (a'.tmps.getD 19 undef)).toNat) ?_ ?_
 .refine ⟨_,_,_,_,_,_,_,_,_,[],⟨0,rfl,Nat.zero_le _,a3.out,aZ.out,?_,al.out,Marks.nil _ _,aU⟩,rfl⟩;exact bb.out
 clear aU aV a3 bb aZ al ak;rintro _ wr ⟨u7,u19,u20,u21,u22,u23,u24,u25,u41,ds,⟨k,rfl,hk,q1,qm,hm,I,hM,hX⟩,rfl⟩;have e1:=q1.cell;have em:=qm.cell;have az:=qm.lt
 by_cases ay:k<ts.length
 .obtain ⟨b,ao,cs,rfl,hb,hT,hl,hr,F⟩:=(I.sl qad.good (by decide)).get k ay;obtain rfl:=hr.1;have g0:=(by simpa using F.get 0 _:wr.cell? ⟨b,ao+k,none⟩=some (.int .i64 ts[k]))
  have al:=Hd I;have HM:=Hd hM;have ad:=Hd hm;have aC:=λW=>(callsIn_wide.1 (qlv 3 (some ⟨g,0,none⟩) ts[k] W))
  clear I hM hm F hr hl hT
  gi_wp2_with fail
  refine⟨trivial,?_⟩
  gi_at_call 175
  refine(callsIn_wide.2 (aC _)).mono ?_;rintro e w' ⟨rfl,rfl⟩
  gi_wp2_with fail
  obtain⟨W0,ab⟩:=nm ((wr.alloc (.cells #[.pointer (some ⟨g,0,none⟩)] 111)).alloc (.cells #[.int .i64 ts[k]] 3));have bI:W0.heap.size=wr.heap.size+2:=by rw[<- ab];show(World.heap _).size=_;simp
  have O:Ext wr W0:=by rw[<- ab];exact((Ext.refl wr).alloc _).alloc _
  have bC:Boxed W0 wr.heap.size 111 (.pointer (some ⟨g,0,none⟩)):=by rw[<- ab];exact((Boxed.new wr 111 _).alloc _)
  have bf:Boxed W0 (wr.heap.size+1) 3 (.int .i64 ts[k]):=by rw[<- ab];have:=Boxed.new (wr.alloc (.cells #[.pointer (some ⟨g,0,none⟩)] 111)) 3 (.int .i64 ts[k]);rwa [World.size_alloc]at this
  rw[ab];clear ab;obtain⟨Z,hZ⟩:∃Z:Nat->Prop,Z=λq=>(S q/\q<w.heap.size)\/q=wr.heap.size:=⟨_,rfl⟩
  have aX:qaz Z W0 g s:=(HS.out.mono (S':=Z) λq M h2=>by rw[hZ];exact .inl ⟨h2,M⟩).bel (hX.trans' O);have bS:=hX.size
  have bD:∀q,Z q->q<W0.heap.size:=λq N=>by
   rw[hZ]at N
   rcases N with⟨_,h⟩ | h <;> omega
  have aS:∀q,Z q->q≠w.heap.size+1:=λq N e=>by
   rw[hZ]at N
   rcases N with⟨_,h⟩ | h <;> omega
  have a6:IsMap (Value.int .i64) W0 (w.heap.size+1) (fB (qdw s (ts.take k))):=ad.out.move ((Ext.kp (S:=λ_=>True) O).block _ ad.out.lt trivial);have aG:Boxed W0 w.heap.size 111 (.pointer (some ⟨g,0,none⟩)):=(Ext.kp (S:=λ_=>True) O).block _ q1.lt trivial |>.trans q1
  have aN:Boxed W0 (w.heap.size+2) 240 (.map (some (w.heap.size+1))):=(Ext.kp (S:=λ_=>True) O).block _ qm.lt trivial |>.trans qm
  have am:OwnFrom W0.heap.size (λ(pre:List (Fin s.es.length)) W=>Bt (λq=>q=w.heap.size+1) W0 W/\IsMap (Value.int .i64) W (w.heap.size+1) (fB (qfq s (qdw s (ts.take k)) pre))):=(qi5 _ W0).and (map_own (by omega) _)
  refine wpIn_rangeFunc_ownH rfl (by omega) (gf:=234) (lb:=#[.pointer (some ⟨wr.heap.size,0,none⟩),.pointer (some ⟨wr.heap.size+1,0,none⟩)]) rfl trivial (enters_of Tryz.func234 (by kernel_rfl) rfl)
   (qk7 (3-1) (by omega) Z s g wr.heap.size (wr.heap.size+1) ts[k] (by rw[hZ];exact .inr rfl) W0 aX bC.cell bf.cell) kp_t (kp_b bD) (Below.refl _ _) (λ_=>rfl)
   (λpre W=>Bt (λq=>q=w.heap.size+1) W0 W/\IsMap (Value.int .i64) W (w.heap.size+1) (fB (qfq s (qdw s (ts.take k)) pre))) (λ_ _ _=>False) am (λ_ _ _ _ _ hs _ _=>hs)
   ⟨Bt.refl _ _,by
    have e:qfq s (qdw s (ts.take k)) []=qdw s (ts.take k):=by funext n;simp[qfq]
    rw[e];exact a6⟩
   (λi a' W=>∃Bx,W0.heap.size<=Bx/\W.heap[Bx]? = some (.cells #[.int .i64 s.es[i].f,.int .i64 s.es[i].l,.int .i64 s.es[i].t] 88)/\a'={ tmps:=#[Value.pointer (some ⟨g,0,none⟩),Value.int .i64 st,Value.pointer (some ⟨w.heap.size,0,none⟩),undef,Value.slice none 0 0,Value.pointer (some ⟨w.heap.size+2,0,none⟩),undef,Value.int .i64 ts[k],undef,Value.pointer (some ⟨Bx,0,none⟩),undef,undef,undef,Value.map (some (w.heap.size+1)),Value.pointer (some ⟨g,0,none⟩),Value.int .i64 st,Value.slice (some ⟨w.heap.size+3,0,none⟩) 1 1,Value.slice (some ⟨b,ao,none⟩) ts.length ct,Value.int .i64 (ts.length:Int),Value.int .i64 (k:Int),Value.bool true,Value.pointer (some ⟨b,ao+k,none⟩),Value.int .i64 ts[k],Value.pointer (some ⟨g,0,none⟩),Value.int .i64 ts[k],Value.func (Fn.func 234) #[] #[Value.pointer (some ⟨wr.heap.size,0,none⟩),Value.pointer (some ⟨wr.heap.size+1,0,none⟩)],Value.int .i64 (i.1:Int),Value.agg #[.int .i64 s.es[i].f,.int .i64 s.es[i].l,.int .i64 s.es[i].t],undef,undef,undef,undef,undef,undef,undef,undef,undef,undef,undef,undef,undef,u41,undef,undef,undef,undef,undef,undef,undef,undef,undef,undef,undef,undef,undef,undef,undef,undef,undef,undef,undef,undef],defers:=[] })
   (λi a' _ X Y row hs hg hr=>by
    obtain⟨Bx,M,h2,h3⟩:=hs
    exact⟨Bx,M,(hg.block Bx (Array.getElem?_eq_some_iff.1 h2).1 λe=>by
     obtain⟨_,o',h4,h5⟩:=hr Bx e.symm;rw[h2]at h4
     cases h4
     cases h5).trans h2,h3⟩)
   ?assign ?body ?done ?stop
  case assign =>
   rintro l2 pre i W K hI hK;unfold qig
   gi_wp2
   refine hK _ _ ((KeepsOthers.alloc _ _).from _) ⟨by simp,λq M _=>Below.heap_alloc _ _ _ M⟩ (am.alloc _ hI) ⟨W.heap.size,hI.1.size,World.alloc_heap_new W _,rfl⟩
  case body =>
   rintro l2 pre i a' W bW _ ⟨L,ah⟩ ⟨Bx,bM,ax,rfl⟩ bm;obtain⟨xi,aQ⟩:=i;have a9:=(aq.2.2.2.2.2 xi aQ).1
   have bJ:0<=s.es[xi].l/\s.es[xi].l<s.ls.length:=by
    simp only[qb8,isB,Bool.and_eq_true,decide_eq_true_eq]at a9;omega
   obtain⟨li,aB⟩:∃li:Nat,s.es[xi].l=(li:Int):=⟨s.es[xi].l.toNat,by omega⟩
   have av:li<s.ls.length:=by omega
   have bq:=L.kp λq _ N=>aS q N
   obtain⟨v',u',m,f,M,h2,h3,h4,h5,h6,h7,h8⟩:=(aX.move bq).ex;obtain⟨bl,ol,cl,bN,rfl,bO,bT,bP,a8,ap⟩:=h2.at li av;obtain⟨il,vl,rfl,ai⟩:=id a8;have aa:=λX=>qj0 s.ls[li].g vl (qam W X)
   have g1:W.cell? ⟨g,1,none⟩=some (.slice (some ⟨bl,ol,none⟩) s.ls.length cl):=cell_of_row W _ 1 _ _ _ M;have gl:W.cell? ⟨bl,ol+li*2,none⟩=some (.int .i64 s.ls[li].g):=by simpa using ap.get 0 _
   have bi:W.cell? ⟨bl,ol+li*2+1,none⟩=some vl:=ap.get 1 _;have x1:W.cell? ⟨Bx,1,none⟩=some (.int .i64 (li:Int)):=by rw[<- aB];exact cell_of_row W _ 1 _ _ _ ax
   have y1:W.cell? ⟨w.heap.size,0,none⟩=some (.pointer (some ⟨g,0,none⟩)):=L.cell aG.cell (by simp);have ym:W.cell? ⟨w.heap.size+2,0,none⟩=some (.map (some (w.heap.size+1))):=L.cell aN.cell (by simp);have aA:=Hd (qhb s (λy=>qat y.g) aB av);have ae:=Hd ah;have u:=Hd L;clear ah L h2 h3 h6 h7 h8 a8 ap ai a9 M ax
   by_cases ag:qat s.ls[li].g=true
   .have hv:∀X,Calls Tryz.prog 176 #[.agg #[.int .i64 s.ls[li].g,vl]] (qam W X) λe w'=>e = .returned (.bool true)/\Ext (qam W X) w':=λX=>by have:=aa X;rwa [ag]at this
    have a7:=Hd (fB_add s (qdw s (ts.take k)) pre ⟨xi,aQ⟩ (by show qev s s.es[xi].l _=true;rw[aA.out];exact ag));clear aa ag
    gi_wp2_with fail
    (refine qds (by kernel_rfl) (by kernel_rfl) (by kernel_rfl) ?_;(repeat (first | go_big_quiet_step ((go_at_call 176;exact qbh (hv _))) | quiet_step ((go_at_call 176;exact qbh (hv _)))));refine wpQuiet_nil ?_)
    intro w4 E;have x4:=Ext.keep E x1;have y4:=Ext.keep E ym;obtain⟨w5,bU,aT,ba⟩:=(ae.out.move ((Ext.kp (S:=λ_=>True) E).block _ ae.out.lt trivial)).store (P:=Tryz.prog) Tryz.underlying240 qio (li:Int) (.bool true);have bn:=Hd aT;have bB:=Hd ba;clear aT ba x1 ym y1 g1 gl bi
    gi_wp2_with fail
    have bx:Bt (λq=>q=w.heap.size+1) w4 w5:=(Bt.of_grown bB.out).mono λq _ e=>by injection e
    have aJ:=(E.bt (Z:=λq=>q=w.heap.size+1)).trans bx;refine⟨qku aJ _ λq o hn N _=>by omega,aJ.kp λq _ N=>aS q N,u.out.trans aJ,?_⟩;rw[a7.out];show IsMap _ _ _ (λn=>if n=s.es[xi].l then _ else _);rw[aB];exact bn.out
   have hv:∀X,Calls Tryz.prog 176 #[.agg #[.int .i64 s.ls[li].g,vl]] (qam W X) λe w'=>e = .returned (.bool false)/\Ext (qam W X) w':=λX=>by have:=aa X;rwa [eq_false_of_ne_true ag]at this
   have aM:=Hd (fB_same s (qdw s (ts.take k)) pre ⟨xi,aQ⟩ (by show qev s s.es[xi].l _=false;rw[aA.out];exact eq_false_of_ne_true ag));clear aa ag
   gi_wp2_with fail
   (refine qds (by kernel_rfl) (by kernel_rfl) (by kernel_rfl) ?_;(repeat (first | go_big_quiet_step ((go_at_call 176;exact qbh (hv _))) | quiet_step ((go_at_call 176;exact qbh (hv _)))));refine wpQuiet_nil ?_)
   intro w4 E
   gi_wp2
   refine⟨qfu E _,Ext.kp E,u.out.ext E,?_⟩;rw[aM.out];exact ae.out.move ((Ext.kp (S:=λ_=>True) E).block _ ae.out.lt trivial)
  case done =>
   rintro D ys W hD rfl ⟨L,ah⟩ bc;have HD:=Hd bc;have ae:=Hd ah;have u:=Hd L;clear bc ah L
   gi_wp2
   have bR:=u.out.size;refine⟨⟨_,_,_,_,_,_,_,_,_,_,?calmP,rfl⟩,?calmM⟩
   case calmP =>
    have bF:Boxed W w.heap.size 111 (.pointer (some ⟨g,0,none⟩)):=(u.out.block _ aG.lt (by omega)).trans aG;have bh:Boxed W (w.heap.size+2) 240 (.map (some (w.heap.size+1))):=(u.out.block _ aN.lt (by omega)).trans aN;have bj:Ext w W:=Bt.new (hX.trans' O) u.out λq _ N=>by omega
    refine⟨k+1,by go_num,by omega,bF,bh,?_,?_,HM.out.cons (by omega) (by omega) HD.out λr M h2=>?_,bj⟩
    .have e:qdw s (ts.take (k+1))=qfq s (qdw s (ts.take k)) (qay s.es ts[k]):=by funext n;rw[List.take_succ_eq_append_getElem ay,qy1]
     rw[e];exact ae.out
    .exact (al.out.ext qad.good O).bt qad.good u.out λq _ N=>⟨λh=>h,λe=>by
      obtain⟨news,M,_⟩:=al.out;have:=(qcb M q e).1;have bQ:q=w.heap.size+1:=N
      omega⟩
    have h3:W0.heap[r]? = some (.deferred (some [])):=((Ext.kp (S:=λ_=>True) O).block r M trivial).trans h2;refine(u.out.block r (by omega) ?_).trans h3;rintro rfl;obtain⟨es,bv,ks,h4,_⟩:=a6;rw[h4]at h3
    cases h3
   simp[intOf];omega
  rintro D c pre W _ _ h _;exact h.elim
 have aj:ts.take k=ts:=List.take_of_length_le (by omega);rw[aj]at hm;have HM:=Hd hM;have ad:=Hd hm;obtain⟨p,hp⟩:=nm (qdw s ts);rw[hp]at ad au;obtain⟨v',u',m,f,M,h2,h3,h4,h5,h6,h7,h8⟩:=HS.out.ex;obtain⟨Al,cl,rfl,ap,bL⟩:=h2.val;have g1:wr.cell? ⟨g,1,none⟩=some (.slice Al s.ls.length cl):=Ext.keep hX (cell_of_row w _ 1 _ _ _ M);have be:=Hd (qaa.good.bel (qaa.good.mono h2 (S':=λq=>S q/\q<w.heap.size) λ_ hb h=>⟨h,hb⟩) hX);have bY:=aq.2.2.1;have bH:w.heap.size+3<=wr.heap.size:=az;have aE:=qix;clear I hM hm aj hp h2 h3 h4 h5 h6 h7 h8 M;obtain⟨we,rfl⟩:∃we,we=wr:=⟨_,rfl⟩
 gi_wp2_with fail
 gi_loopw [10,48] (λvo vi wx=>∃(k:Nat) (A:Option Addr) (c:Nat),k<=s.ls.length/\vi = .int .i64 k/\vo = .slice A (qbp p 0 (s.ls.take k)).length c/\qab RLb 2 61 we.heap.size (λq=>S q/\q<w.heap.size) wx (qbp p 0 (s.ls.take k)) (.slice A (qbp p 0 (s.ls.take k)).length c)/\Ext we wx) (λ_ vi _=>s.ls.length-(intOf vi).toNat)
 case atStart=>exact⟨0,none,0,Nat.zero_le _,rfl,rfl,qab.nil ..,Ext.refl _⟩
 obtain⟨j,A,c,hj,rfl,rfl,d,hE⟩:=hrel
 by_cases aH:j<s.ls.length
 .obtain ⟨b,ao,cs,rfl,hb,hT,hl,hr,F⟩:=(qaa.good.bel be.out hE).get j aH;obtain⟨hi,vl,rfl,ai⟩:=id hr;obtain⟨a0,a1⟩:=g2 F;obtain⟨Av,cv,rfl,_,_⟩:=ai.val;have bX:=Ext.keep hE em;have bg:w.heap.size+2<wr.heap.size:=Nat.lt_of_lt_of_le az hE.size;obtain⟨wb,af⟩:∃wb,wb=wr.alloc (.cells #[.int .i64 s.ls[j].g,.slice Av s.ls[j].v.length cv] 61):=⟨_,rfl⟩
  have bE:Ext we wb:=by rw[af];exact hE.alloc _
  have aP:=(ad.out.move ((Ext.kp (S:=λ_=>True) bE).block _ ad.out.lt trivial)).lookup (P:=Tryz.prog) Tryz.underlying240 qio (z:=.bool false) (by kernel_rfl) (j:Int);rw[fB_get]at aP;have ac:=Hd (qxt p s.ls j aH);have a4:=qq1 p 0 (s.ls.take j);rw[List.length_take]at a4
  by_cases hp:p (j:Int)=true
  .rw [hp]at aP;have J:Hid (qbp p 0 (s.ls.take (j+1))=qbp p 0 (s.ls.take j)++[s.ls[j]]):=by show _=_;rw[ac.out,if_pos hp]
   obtain⟨i3,bw,aW⟩:=Option.map_eq_some_iff.1 aE;simp only[Prod.mk.injEq]at aW;obtain⟨bz,bk,br⟩:=aW;have bA:qab RLb 2 61 we.heap.size (λq=>S q/\q<w.heap.size) (wb.alloc (.cells #[.int .i64 s.ls[j].g,.slice Av s.ls[j].v.length cv] 61)) (qbp p 0 (s.ls.take j)) (.slice A (qbp p 0 (s.ls.take j)).length c):=d.ext RLb.good (by rw[af];exact((Ext.refl _).alloc _).alloc _)
   have bd:RLb (λq=>(S q/\q<w.heap.size)/\(Value.slice A (qbp p 0 (s.ls.take j)).length c).ownBlock≠some q) (wb.alloc (.cells #[.int .i64 s.ls[j].g,.slice Av s.ls[j].v.length cv] 61)) s.ls[j] [.int .i64 s.ls[j].g,.slice Av s.ls[j].v.length cv] :=
    RLb.good.bel (RLb.good.mono hr λq _ N=>⟨N,λe=>by
     obtain⟨news,M,_⟩:=d;have:=(qcb M q e).1
     omega⟩) (by rw[af];exact((Ext.refl _).alloc _).alloc _)
   obtain⟨news,an,hF⟩:=bA;have bs:=Hd bd;have HF:=Hd hF;have bK:wb.heap.size=wr.heap.size+1:=by rw[af];simp
   have bG:=hE.size;subst af;have aO:=qe7 (wr.alloc (.cells #[.int .i64 s.ls[j].g,.slice Av s.ls[j].v.length cv] 61)) #[.int .i64 s.ls[j].g,.slice Av s.ls[j].v.length cv] 61;rw[World.size_alloc]at aO;clear bd hF hr ai hl d ac hp aE
   gi_wp2_with (gi_at_builtin;refine qqc _ rfl _ _ 22 rfl we.heap.size 61 i3 _ 2 32 Tryz.underlying22 bw bz bk br rfl (by decide) _ _ _ rfl an ⟨wr.heap.size+1,0,none⟩ 1 1 [.int .i64 s.ls[j].g,.slice Av s.ls[j].v.length cv] rfl rfl aO (by simp[Value.oneCell']) (by unfold maxLen;omega) (by omega) (by simp;omega) ?_;intro v5 w5 V G aw;obtain⟨g5,c5,rfl⟩:=ownsRow_succ V)
   have bo:=Hd (qab.push RLb.good HF.out (Flat.single bs.out rfl) V G aw);have bp:Ext we w5:=Below.grown ((hE.alloc _).alloc _) G (by simp;omega) λq N=>(qcb an q N).1
   clear V G aw an aO
   gi_wp2_with fail
   go_roundw
   case rel=>exact⟨j+1,some ⟨g5,0,none⟩,c5,by omega,by go_num,by rw[J.out,List.length_append];rfl,by rw[J.out,List.length_append];exact bo.out,bp⟩
   simp[intOf];omega
  rw[eq_false_of_ne_true hp]at aP;have J:Hid (qbp p 0 (s.ls.take (j+1))=qbp p 0 (s.ls.take j)):=by show _=_;rw[ac.out,if_neg hp]
  have HO:=Hd d;subst af;clear hr ai hl d ac hp aE
  gi_wp2_with fail
  go_roundw
  case rel=>exact⟨j+1,A,c,by omega,by go_num,by rw[J.out],by rw[J.out];exact HO.out.ext RLb.good ((Ext.refl _).alloc _),hE.alloc _⟩
  simp[intOf];omega
 have aj:Hid (qbo s st=qbp p 0 (s.ls.take j)):=by show _=_;rw[au.out,List.take_of_length_le (by omega)]
 have HO:=Hd d;clear d
 gi_wp2_with fail
 have bu:Marks (w.heap.size+4) ds wr:=HM.out.keep λr hr h=>((Ext.kp (S:=λ_=>True) hE).block r (Array.getElem?_eq_some_iff.1 h).1 trivial).trans h
 refine Marks.leave (by simp) bu λw3 a5=>?_
 refine⟨_,results_tmp rfl _ _ _,A,c,?_,?_,?_⟩
 .rw [aj.out];rfl
 .rw [aj.out];exact(HO.out.bt RLb.good a5 λb _ hz=>⟨λh=>by have:=h.2;have:=hz.1;omega,HO.out.not_def hz.2⟩).base (by omega)
 exact Bt.new (hX.trans' hE) a5 λi _ hi=>by have:=hi.1;omega
end
section
open Go.Shelf
attribute [local go_sem] Oper.semAt_some
def lastL (s:Sy) (tr:List Lb):Nat->List Int
 | 0=>[]
 | k+1=>qao s (tr.take k)
theorem qlp (S:Nat->Prop) (s:Sy) (am:qah s) (g:Nat) (d:List Lb) (v:Value) (w:World) (hS:qaz S w g s) (ht:qaa S w d [v]) (ak:d.length<=4611686018427387903) :
  Calls Tryz.prog 81 #[.pointer (some ⟨g,0,none⟩),v] w (qhf w.heap.size (qao s d) w):=by
 have HS:=Hd hS;have HT:=Hd ht;obtain⟨F,I,rfl,av,an⟩:=ht.val;clear hS ht;refine(callsIn_wide (n:=3)).1 ?_;refine callsIn_of_wp_marks Tryz.func81 rfl trivial ?_ rfl;simp only[Tryz.ntmps81,List.size_toArray,List.length_cons,List.length_nil,Nat.reduceAdd,Nat.reduceSub,Array.replicate_succ,Array.replicate_zero,List.push_toArray,List.append_toArray,List.nil_append,List.cons_append]
 gi_wp2_with fail
 refine⟨trivial,?_⟩
 gi_at_call 150
 refine(qom 2 (some ⟨g,0,none⟩) F d.length I _).mono ?_;rintro e w1 ⟨rfl,rfl⟩
 gi_wp2_with fail
 obtain⟨W0,u⟩:=nm (((w.alloc (.cells #[.slice none 0 0] 53)).alloc (.cells #[.pointer (some ⟨g,0,none⟩)] 111)).alloc (.cells #[.slice F d.length I] 22));have ao:W0.heap.size=w.heap.size+3:=by rw[<- u];simp
 have N:Ext w W0:=by rw[<- u];exact(((Ext.refl w).alloc _).alloc _).alloc _
 have U:Boxed W0 w.heap.size 53 (.slice none 0 0):=by rw[<- u];exact((Boxed.new w 53 _).alloc _).alloc _
 have ag:Boxed W0 (w.heap.size+1) 111 (.pointer (some ⟨g,0,none⟩)):=by
  rw[<- u];have:=(Boxed.new (w.alloc (.cells #[.slice none 0 0] 53)) 111 (.pointer (some ⟨g,0,none⟩))).alloc (.cells #[.slice F d.length I] 22)
  rwa [World.size_alloc]at this
 have af:Boxed W0 (w.heap.size+2) 22 (.slice F d.length I):=by
  rw[<- u];have:=Boxed.new ((w.alloc (.cells #[.slice none 0 0] 53)).alloc (.cells #[.pointer (some ⟨g,0,none⟩)] 111)) 22 (.slice F d.length I)
  rwa [World.size_alloc,World.size_alloc]at this
 rw[u];clear u;obtain⟨Z,V⟩:∃Z:Nat->Prop,Z=λq=>(S q/\q<w.heap.size)\/q=w.heap.size+1\/q=w.heap.size+2:=⟨_,rfl⟩
 have ah:qaz Z W0 g s:=(HS.out.mono (S':=Z) λq m A=>by rw[V];exact .inl ⟨A,m⟩).bel N;have ad:qaa Z W0 d [.slice F d.length I]:=qaa.good.bel (qaa.good.mono HT.out (S':=Z) λq m A=>by rw[V];exact .inl ⟨A,m⟩) N
 refine qq0 (by omega) (gf:=220) (lb:=#[.pointer (some ⟨w.heap.size+1,0,none⟩),.pointer (some ⟨w.heap.size+2,0,none⟩)]) rfl (enters_of Tryz.func220 (by kernel_rfl) rfl)
  (qov (3-1) (by omega) (λb=>b=w.heap.size) Z s am g d _ (w.heap.size+1) (w.heap.size+2) W0 (λk M=>by
   rw[V]at M
   rcases M with⟨_,h⟩ | h | h <;> constructor <;> omega) (λk M=>by omega) ah ad (by rw[V];exact .inr (.inl rfl)) (by rw[V];exact .inr (.inr rfl)) ag.cell af.cell ak)
  (λ_=>rfl) kc_t (λW l o o' m A h3=>kc_b W l o o' m A h3)
  (λpre W=>Bt (λb=>b=w.heap.size) W0 W/\pre.length<=d.length+1/\∃O,Boxed W w.heap.size 53 O/\qab qad 1 3 W0.heap.size (λ_=>False) W (lastL s d pre.length) O) (λ_ _ _=>False) ?own (λ_ _ _ _ _ hs _ _=>hs)
  ⟨Bt.refl _ _,by simp,_,U,qab.nil ..⟩
  (λpre x a' W=>walkG s d W0.heap.size pre x W/\a'={ tmps:=#[.pointer (some ⟨g,0,none⟩),.slice F d.length I,undef,undef,.slice none 0 0,.pointer (some ⟨w.heap.size,0,none⟩),undef,x.2,.pointer (some ⟨g,0,none⟩),.slice F d.length I,.func (.func 220) #[] #[.pointer (some ⟨w.heap.size+1,0,none⟩),.pointer (some ⟨w.heap.size+2,0,none⟩)],.int .i64 (x.1:Int),x.2,undef,undef],defers:=[] })
  (λpre x a' _ X Y row hs G hr=>⟨⟨hs.1.1,hs.1.2.1,qno () X Y row hs.1.2.2 G hr⟩,hs.2⟩)
  ?assign ?body ?done ?stop
 case own =>
  rintro pre X Y r ⟨m,h0,O,A,h3⟩ G hr;have L:∀q,q<X.heap.size->q<W0.heap.size->Y.heap[q]? = X.heap[q]?:=λq h4 h5=>G.block q h4 λe=>by have:=(hr q e.symm).1;omega
  exact⟨⟨G.os.trans m.os,G.tape.trans m.tape,G.output.trans m.output,Nat.le_trans m.size G.size,λk M hz=>(L k (Nat.lt_of_lt_of_le M m.size) M).trans (m.block k M hz)⟩,h0,O,(L _ A.lt (by omega)).trans A,qno () X Y r h3 G hr⟩
 case assign =>
  rintro l2 pre ⟨xi,xv⟩ W au hI hG hK;unfold qke;simp only
  gi_wp2
  exact hK _ _ (KeepsFrom.refl _ _) ⟨Nat.le_refl _,λ_ _ h _ _=>h⟩ hI ⟨hG,rfl⟩
 case body =>
  rintro l2 pre ⟨xi,xv⟩ a' W aq _ ⟨hb,hl,O,q,J⟩ ⟨⟨al,aj,E⟩,rfl⟩;simp only at al aj E;obtain⟨A3,c3,rfl,_,_⟩:=(E.sl qad.good (by decide)).val;have y:=q.cell;have y':=q.frozen;have HQ:=Hd q;have aa:=Hd E;have HO:=Hd J;clear q E J
  gi_wp2
  have hs:=Bt.set (Bt.refl (λb=>b=w.heap.size) W) (p:=⟨w.heap.size,0,none⟩) (.inr rfl) (.slice A3 (qao s (d.take pre.length)).length c3);refine⟨(KeepsOthers.setCell _ _ _).from _,Kc.of_bt hs,hb.trans hs,by simp;omega,_,HQ.out.set _,?_⟩;rw[List.length_append,List.length_cons,List.length_nil,lastL]
  exact aa.out.bt qad.good hs λb ap hz=>⟨λh=>h,λe=>by
   obtain⟨news,m,_⟩:=aa.out;have:=(qcb m b e).1;have aw:b=w.heap.size:=hz
   omega⟩
 case done =>
  rintro D ys W hD ai ⟨hb,hl,O,q,J⟩ ac;rw[ai]at J;simp only[lastL,List.take_length]at J;obtain⟨A3,c3,rfl,_,_⟩:=(J.sl qad.good (by decide)).val;have y:=q.cell;have HO:=Hd J;have HD:=Hd ac;have HB:=Hd hb;clear q J ac hb
  gi_wp2
  have ae:Ext w W:=Bt.new N HB.out λi _ hi=>by have ax:i=w.heap.size:=hi;omega
  have hM:Marks W0.heap.size [{ target:=.collected D,args:=#[] }] W:=(Marks.nil W0.heap.size W0).cons hD (by omega) HD.out (λr m A=>(HB.out.block r m (by
   rintro rfl;rw[show W0.heap[w.heap.size]? = _ from U]at A
   cases A)).trans A)
  refine Marks.leave (by simp) hM λw3 ab=>?_
  refine⟨_,results_tmp rfl _ _ _,_,rfl,?_,?_⟩
  .exact (HO.out.bt qad.good ab λb _ hz=>⟨λh=>h,HO.out.not_def hz.2⟩).base (by omega)
  exact Bt.new ae ab λi _ hi=>by have:=hi.1;omega
 rintro D c pre W _ _ h _;exact h.elim
end
section
open Go.ChangeShapes Go.WideShapes Go.ChangeAt
section
variable {H:Type} {enc:TypeId×Value->H} {W:World} {sp:Nat->Bool} {held:Bool}
theorem qwa:∀(l:List Nat) (c:List (DataW H)),l.length=c.length->(∀i,(h:i<l.length)->(A:i<c.length)->l[i]<=Rows.uptoBulk c[i])->l.sum<=Rows.uptoBulkAll c
 | [],[],_,_=>by simp[Rows.uptoBulkAll]
 | [],_ :: _,h,_=>by simp at h
 | _ :: _,[],h,_=>by simp at h
 | x :: l,e :: c,h,hi=>by
  rw[List.sum_cons,Rows.uptoBulkAll];have u:=hi 0 (by simp) (by simp);have:=qwa l c (by simpa using h) λi m d=>hi (i+1) (Nat.succ_lt_succ m) (Nat.succ_lt_succ d)
  simp only[List.getElem_cons_zero]at u;omega
theorem qh7 {α:Type} {R:Rdr α} {k:Nat} (hk:0<k) {t N:TypeId} {D:Nat} {cs:List Value} {x:DataW H×List MemPlace} (J:α->Nat) (ht:Tryz.prog.underlying t=some (.slice N)) (hc:Tryz.prog.cellsOf N=k)
  (h:DataW.trod enc Tryz.prog W 0 sp held D t cs=some x) (V:∀n,n<D->∀cs y,DataW.trod enc Tryz.prog W 0 sp held n N cs=some y->cs.length=k/\∃a,R (λ_=>True) W a cs/\J a<=Rows.uptoBulk y.1) :
  ∃l v,cs=[v]/\RSl R k (λ_=>True) W l [v]/\(l.map J).sum<=Rows.uptoBulk x.1:=by
 rcases DataW.trod_slice ht h with⟨rfl,rfl⟩ | ⟨a,len,U,d,rest,n,rfl,rfl,rfl,_,h1,h2,h3,h4,_,_⟩
 .exact ⟨[],_,rfl,⟨none,0,rfl,Nat.le_refl _,by decide,.inl rfl⟩,by simp⟩
 have hx:∀i:Fin len,∃L m,R (λ_=>True) W L m/\m.length=k/\W.cells? 0 (a.add (i.1*k)) k=some m/\J L<=Rows.uptoBulk (d[i.1]'(by omega)).1:=λi=>by
  have hi:=h4 i.1 i.2;rw[hc,List.getElem?_eq_getElem (by omega)]at hi;obtain⟨m,hd,hy⟩:=Option.bind_eq_some_iff.1 hi;obtain⟨M,L,ha,hs⟩:=V n (Nat.lt_succ_self n) m _ hy;exact⟨L,m,ha,M,hd,hs⟩
 obtain⟨f,hf⟩:=Classical.axiomOfChoice hx;have c:(List.ofFn f).length=len:=List.length_ofFn;have I:∀i,(h:i<len)->(List.ofFn f)[i]'(by rw[c];exact h)=f ⟨i,h⟩:=λi h=>by simp
 refine⟨List.ofFn f,_,rfl,⟨some a,U,by rw[c],by rw[c];exact h1,by unfold maxLen at h2;omega,?_⟩,?_⟩
 .by_cases h0:len=0
  .left
   exact List.length_eq_zero_iff.1 (by rw[c];exact h0)
  right
  obtain⟨b,O,G⟩:=a;obtain⟨m,_,ab,Y,_⟩:=hf ⟨0,by omega⟩;obtain⟨_,_,A⟩:=World.cells?_some Y;have g0:=A 0 hk;rw[List.getElem?_eq_getElem (by omega)]at g0;have F:G=none:=by simpa[Addr.add]using World.cell?_spot g0
  subst F;refine⟨b,O,rfl,World.block_lt_of_cell? W _ (by simpa[Addr.add]using g0),trivial,qc2.of_get λi hi=>?_⟩;rw[c]at hi;obtain⟨m,hr,M,aa,_⟩:=hf ⟨i,hi⟩;obtain⟨_,_,E⟩:=World.cells?_some aa;refine⟨m,M,by rw[I i hi];exact hr,λj u hj=>?_⟩;have X:j<k:=by rw[<- M];exact(List.getElem?_eq_some_iff.1 hj).1
  have:=E j X;rw[hj]at this;rw[Addr.add_lit,Addr.add_lit]at this;exact this
 have hb:=qwa ((List.ofFn f).map J) (d.map (·.1)) (by simp[h3]) λi h h'=>by
  have hi:i<len:=by simpa using h
  obtain⟨_,_,_,_,hs⟩:=hf ⟨i,hi⟩;simpa using hs
 simp only[Rows.uptoBulk];omega
theorem qg0 {n:Int} (h:(Lit.int .i64 n).wf=true):I64 n:=by
 simp only[Lit.wf,Bool.and_eq_true,decide_eq_true_eq]at h;have d:IntKind.i64.min = -9223372036854775808:=by decide
 have c:IntKind.i64.max=9223372036854775807:=by decide
 rw[d,c]at h;unfold I64;omega
theorem list2 {α:Type}:∀{l:List α},l.length=2->∃a b,l=[a,b]
 | [a,b],_=>⟨a,b,rfl⟩
theorem qjz {α:Type}:∀{l:List α},l.length=3->∃a b c,l=[a,b,c]
 | [a,b,c],_=>⟨a,b,c,rfl⟩
theorem k3:Tryz.prog.cellsOf 3=1:=by kernel_rfl
theorem k59:Tryz.prog.cellsOf 59=1:=by kernel_rfl
theorem k22:Tryz.prog.cellsOf 22=1:=by kernel_rfl
theorem k23:Tryz.prog.cellsOf 23=1:=by kernel_rfl
theorem k159:Tryz.prog.cellsOf 159=3:=by kernel_rfl
theorem k61:Tryz.prog.cellsOf 61=2:=by kernel_rfl
theorem k88:Tryz.prog.cellsOf 88=3:=by kernel_rfl
theorem k25:Tryz.prog.cellsOf 25=3:=by kernel_rfl
theorem qon:∀l:List Tm,(l.map Tm.size).sum=Tm.sizes l
 | []=>by rw[Tm.sizes];rfl
 | t :: ts=>by rw[Tm.sizes,List.map_cons,List.sum_cons,qon ts]
theorem open_tm:∀(c:Nat) (cs:List Value) (x:DataW H×List MemPlace),DataW.trod enc Tryz.prog W 0 sp held c 159 cs=some x->cs.length=3/\∃t:Tm,RTm (λ_=>True) W t cs/\t.size<=Rows.uptoBulk x.1:=by
 intro c
 induction c using Nat.strongRecOn with
 | _ c ih =>
 intro cs x h;obtain⟨xs,n,rfl,rfl,I,d,hf⟩:=DataW.trod_struct Tryz.underlying159 h;have u:cs.length=3:=by rw[I,k159]
 obtain⟨D,A,c2,rfl⟩:=qjz u;obtain⟨O,V,U,rfl⟩:=qjz (show xs.length=3 from d);clear I d u;have F:DataW.trod enc Tryz.prog W 0 sp held n 3 (([D,A,c2].drop 0).take (Tryz.prog.cellsOf 3))=some O:=hf 0 _ rfl;rw[k3]at F;have g1:DataW.trod enc Tryz.prog W 0 sp held n 3 (([D,A,c2].drop 1).take (Tryz.prog.cellsOf 3))=some V:=hf 1 _ rfl;rw[k3]at g1;have g2:DataW.trod enc Tryz.prog W 0 sp held n 59 (([D,A,c2].drop 2).take (Tryz.prog.cellsOf 59))=some U:=hf 2 _ rfl;rw[k59]at g2;obtain⟨G,Y,_,L⟩:=DataW.trod_int Tryz.underlying3 F;obtain⟨E,e1,_,X⟩:=DataW.trod_int Tryz.underlying3 g1;obtain⟨l,v,e2,hr,hs⟩:=qh7 (R:=RTm) (k:=3) (by decide) Tm.size Tryz.underlying59 k159 g2 (λm hm cs y hy=>ih m (by omega) cs y hy);have J:D = .int .i64 G:=by injection Y
 have N:A = .int .i64 E:=by injection e1
 have M:c2=v:=by injection e2
 subst J N M;refine⟨rfl,.mk G E l,(qa6 ..).2 ⟨qg0 L,qg0 X,_,rfl,hr⟩,?_⟩;rw[qon]at hs;rw[Tm.size];simp only[List.map_cons,List.map_nil,Rows.uptoBulk,Rows.uptoBulkAll];omega
theorem open_lb (u:Nat) (cs:List Value) (x:DataW H×List MemPlace) (h:DataW.trod enc Tryz.prog W 0 sp held u 61 cs=some x):cs.length=2/\∃a:Lb,RLb (λ_=>True) W a cs/\a.size<=Rows.uptoBulk x.1:=by
 obtain⟨xs,n,rfl,rfl,G,c,hf⟩:=DataW.trod_struct Tryz.underlying61 h;have d:cs.length=2:=by rw[G,k61]
 obtain⟨A,D,rfl⟩:=list2 d;obtain⟨M,N,rfl⟩:=list2 (show xs.length=2 from c);clear G c d;have E:DataW.trod enc Tryz.prog W 0 sp held n 3 (([A,D].drop 0).take (Tryz.prog.cellsOf 3))=some M:=hf 0 _ rfl;rw[k3]at E;have g1:DataW.trod enc Tryz.prog W 0 sp held n 59 (([A,D].drop 1).take (Tryz.prog.cellsOf 59))=some N:=hf 1 _ rfl;rw[k59]at g1;obtain⟨F,J,_,O⟩:=DataW.trod_int Tryz.underlying3 E;obtain⟨l,v,e2,hr,hs⟩:=qh7 (R:=RTm) (k:=3) (by decide) Tm.size Tryz.underlying59 k159 g1 (λm _ cs y hy=>open_tm m cs y hy);have L:A = .int .i64 F:=by injection J
 have I:D=v:=by injection e2
 subst L I;refine⟨rfl,⟨F,l⟩,⟨qg0 O,_,rfl,hr⟩,?_⟩;rw[qon]at hs;simp only[List.map_cons,List.map_nil,Rows.uptoBulk,Rows.uptoBulkAll];show Tm.sizes l<=_;omega
theorem open_ed (m:Nat) (cs:List Value) (x:DataW H×List MemPlace) (h:DataW.trod enc Tryz.prog W 0 sp held m 88 cs=some x):cs.length=3/\∃a:Ed,REd (λ_=>True) W a cs/\1<=Rows.uptoBulk x.1:=by
 obtain⟨xs,n,rfl,rfl,I,c,hf⟩:=DataW.trod_struct Tryz.underlying88 h;have d:cs.length=3:=by rw[I,k88]
 obtain⟨A,u,c2,rfl⟩:=qjz d;obtain⟨O,V,U,rfl⟩:=qjz (show xs.length=3 from c);clear I c d;have F:DataW.trod enc Tryz.prog W 0 sp held n 3 (([A,u,c2].drop 0).take (Tryz.prog.cellsOf 3))=some O:=hf 0 _ rfl;rw[k3]at F;have g1:DataW.trod enc Tryz.prog W 0 sp held n 3 (([A,u,c2].drop 1).take (Tryz.prog.cellsOf 3))=some V:=hf 1 _ rfl;rw[k3]at g1;have g2:DataW.trod enc Tryz.prog W 0 sp held n 3 (([A,u,c2].drop 2).take (Tryz.prog.cellsOf 3))=some U:=hf 2 _ rfl;rw[k3]at g2;obtain⟨G,e0,_,L⟩:=DataW.trod_int Tryz.underlying3 F;obtain⟨D,e1,_,X⟩:=DataW.trod_int Tryz.underlying3 g1;obtain⟨E,e2,_,Y⟩:=DataW.trod_int Tryz.underlying3 g2;have J:A = .int .i64 G:=by injection e0
 have N:u = .int .i64 D:=by injection e1
 have M:c2 = .int .i64 E:=by injection e2
 subst J N M;refine⟨rfl,⟨G,D,E⟩,⟨qg0 L,qg0 X,qg0 Y,rfl⟩,?_⟩;simp only[Rows.uptoBulk];omega
theorem qrf:∀(l:List Nat) (n:Nat),n∈l->n<=l.sum
 | x :: l,n,h=>by
  rw[List.sum_cons]
  rcases List.mem_cons.1 h with rfl | h
  .omega
  have:=qrf l n h;omega
theorem open_sy (A:Nat) (cs:List Value) (x:DataW H×List MemPlace) (h:DataW.trod enc Tryz.prog W 0 sp held A 25 cs=some x):cs.length=3/\∃s:Sy,RSy (λ_=>True) W s cs/\(∀a∈s.ls,a.size<=Rows.uptoBulk x.1):=by
 obtain⟨xs,n,rfl,rfl,J,c,hf⟩:=DataW.trod_struct Tryz.underlying25 h;have d:cs.length=3:=by rw[J,k25]
 obtain⟨E,D,c2,rfl⟩:=qjz d;obtain⟨y0,y1,y2,rfl⟩:=qjz (show xs.length=3 from c);clear J c d;have L:DataW.trod enc Tryz.prog W 0 sp held n 3 (([E,D,c2].drop 0).take (Tryz.prog.cellsOf 3))=some y0:=hf 0 _ rfl;rw[k3]at L;have g1:DataW.trod enc Tryz.prog W 0 sp held n 22 (([E,D,c2].drop 1).take (Tryz.prog.cellsOf 22))=some y1:=hf 1 _ rfl;rw[k22]at g1;have g2:DataW.trod enc Tryz.prog W 0 sp held n 23 (([E,D,c2].drop 2).take (Tryz.prog.cellsOf 23))=some y2:=hf 2 _ rfl;rw[k23]at g2;obtain⟨M,e0,_,U⟩:=DataW.trod_int Tryz.underlying3 L;obtain⟨G,v,e1,F,Y⟩:=qh7 (R:=RLb) (k:=2) (by decide) Lb.size Tryz.underlying22 k61 g1 (λm _ cs y hy=>open_lb m cs y hy);obtain⟨O,u,e2,I,V⟩:=qh7 (R:=REd) (k:=3) (by decide) (λ_=>1) Tryz.underlying23 k88 g2 (λm _ cs y hy=>open_ed m cs y hy);have N:E = .int .i64 M:=by injection e0
 have f1:D=v:=by injection e1
 have X:c2=u:=by injection e2
 subst N f1 X;refine⟨rfl,⟨M,G,O⟩,⟨qg0 U,_,_,rfl,F,I⟩,λa ha=>?_⟩;have h9:a.size<=(G.map Lb.size).sum:=qrf _ _ (List.mem_map_of_mem (f:=Lb.size) (show a∈G from ha));simp only[List.map_cons,List.map_nil,Rows.uptoBulk,Rows.uptoBulkAll];omega
end
end
section
open Go.ChangeShapes Go.WideShapes Go.ChangeAt
theorem own:ownKnob Tryz.prog.godebug=none:=by kernel_rfl
theorem laid:laidOutB Tryz.prog=true:=by kernel_rfl
theorem stays {t:TypeId} (c:Tryz.prog.readableRec t=true) (m:t<Tryz.prog.types.size) {H:Type} {enc:TypeId×Value->H} {W W':World} {v:Value} {d:DataW H} {u:List MemPlace} (h:DataW.Trod enc Tryz.prog W 0 (λ_=>true) true t v d u) (E:Ext W W') (A:∀p∈u,p.block<W.heap.size) (sp:Nat->Bool) (hs:∀p∈u,sp p.block=true):DataW.Trod enc Tryz.prog W' 0 sp true t v d u:=by
 obtain⟨n,hn⟩:=h;exact⟨n,DataW.trod_stays (kids_book laid c) (book_sized c) (λh=>by cases h) ⟨m,book_self t⟩ hn (λp D=>Below.same E (A p D)) hs⟩
theorem post_ext {H:Type} {enc:TypeId×Value->H} {P:Program} {f:Func} {s:ChangeSpec} {apart G d I:Bool} {W W':World} {args:Array Value} {v:Value} {J N:List (DataW H)} {c U M:List MemPlace}
  (V:DataW.Whole enc P f.params.toList s.vars apart W args.toList J N c) (Y:Ext W W')
  (A:∀(b:Nat) (sp:Nat->Bool) (hd:Bool),DataW.TrodAll enc P W' b sp hd f.resultTypes.toList (v.resultList f.resultTypes.size) (s.fn H (J++N)).results [])
  (m:∀sp:Nat->Bool,(∀p∈c,sp p.block=true)->DataW.TrodAll enc P W' 0 sp true f.params.toList args.toList (s.fn H (J++N)).args U)
  (u:∀sp:Nat->Bool,(∀p∈c,sp p.block=true)->DataW.TrodVars enc P W' sp s.vars (s.fn H (J++N)).vars M) (E:c=U++M)
  (X:∀(j:Nat) (t:TypeId) (r:Value),f.resultTypes[j]? = some t->(v.resultList f.resultTypes.size)[j]? = some r->Value.okWide P W' .any 0 t r):s.post enc P f apart G d I W args v W':=by
 have O:=V.lt;have D:∀p∈c,(λb=>decide (b<W.heap.size)) p.block=true:=λp L=>decide_eq_true (O p L)
 refine⟨J,N,c,[],U,M,V,A _ _ _,m _ D,u _ D,Below.frame Y _,λ_=>⟨X,_,_,([]++U)++M,⟨[]++U,M,trodAll_append (m _ λ_ _=>rfl) (A _ _ _),u _ λ_ _=>rfl,rfl,λb F L=>?_,λha=>?_⟩,λp L _=>?_⟩⟩
 .have hb:MemPlace.cell b F∈c:=by rw[E];simpa using L
  obtain⟨_,_,_,_,_,hz,_⟩:=V;exact(Below.frozen Y (p:=⟨b,F,none⟩) (O _ hb)).trans (hz b F hb)
 .obtain ⟨_,_,_,_,_,_,hn⟩:=V;have:=hn ha;rw[E]at this;simpa using this
 rw[E];simpa using L
section
variable {H:Type} {enc:TypeId×Value->H} {W:World} {sp:Nat->Bool} {held:Bool}
theorem k40:Tryz.prog.cellsOf 40=2:=by kernel_rfl
theorem k22c:Tryz.prog.cellsOf 22=1:=by kernel_rfl
theorem open_lb1 (c:Nat) (cs:List Value) (x:DataW H×List MemPlace) (h:DataW.trod enc Tryz.prog W 0 sp held c 61 cs=some x):cs.length=2/\∃a:Lb,RLb (λ_=>True) W a cs/\1<=Rows.uptoBulk x.1:=by
 obtain⟨u,a,m,_⟩:=open_lb c cs x h;obtain⟨xs,n,rfl,rfl,A,d,hf⟩:=DataW.trod_struct Tryz.underlying61 h;refine⟨u,a,m,?_⟩;simp only[Rows.uptoBulk];omega
theorem qpa (c:Nat) (cs:List Value) (x:DataW H×List MemPlace) (h:DataW.trod enc Tryz.prog W 0 sp held c 22 cs=some x):cs.length=1/\∃l:List Lb,qaa (λ_=>True) W l cs/\l.length<=Rows.uptoBulk x.1:=by
 obtain⟨l,v,rfl,hr,hs⟩:=qh7 (R:=RLb) (k:=2) (by decide) (λ_=>1) Tryz.underlying22 k61 h (λm _ cs y hy=>open_lb1 m cs y hy);refine⟨rfl,l,hr,?_⟩
 have e:∀l:List Lb,(l.map λ_=>1).sum=l.length:=by
  intro l
  induction l with
  | nil=>rfl
  | cons x l ih=>rw[List.map_cons,List.sum_cons,ih,List.length_cons,Nat.add_comm]
 rw[e]at hs;exact hs
theorem open_te (u:Nat) (cs:List Value) (x:DataW H×List MemPlace) (h:DataW.trod enc Tryz.prog W 0 sp held u 40 cs=some x):cs.length=2/\∃t:Te,RTe (λ_=>True) W t cs/\1<=Rows.uptoBulk x.1:=by
 obtain⟨xs,n,rfl,rfl,G,c,hf⟩:=DataW.trod_struct Tryz.underlying40 h;have d:cs.length=2:=by rw[G,k40]
 obtain⟨A,D,rfl⟩:=list2 d;obtain⟨I,J,rfl⟩:=list2 (show xs.length=2 from c);clear G c d;have F:DataW.trod enc Tryz.prog W 0 sp held n 22 (([A,D].drop 0).take (Tryz.prog.cellsOf 22))=some I:=hf 0 _ rfl;rw[k22c]at F;have g1:DataW.trod enc Tryz.prog W 0 sp held n 22 (([A,D].drop 1).take (Tryz.prog.cellsOf 22))=some J:=hf 1 _ rfl;rw[k22c]at g1;obtain⟨_,l,hr,_⟩:=qpa n _ _ F;obtain⟨_,m,E,_⟩:=qpa n _ _ g1;refine⟨rfl,⟨l,m⟩,⟨A,D,rfl,hr,E⟩,?_⟩;simp only[Rows.uptoBulk];omega
theorem open_tes (c:Nat) (cs:List Value) (x:DataW H×List MemPlace) (h:DataW.trod enc Tryz.prog W 0 sp held c 34 cs=some x):∃l v,cs=[v]/\RSl RTe 2 (λ_=>True) W l [v]:=by
 obtain⟨l,v,rfl,hr,_⟩:=qh7 (R:=RTe) (k:=2) (by decide) (λ_=>1) Tryz.underlying34 k40 h (λm _ cs y hy=>open_te m cs y hy);exact⟨l,v,rfl,hr⟩
end
end
end Go.Proofs.YtegenalcheooeaaGreat
