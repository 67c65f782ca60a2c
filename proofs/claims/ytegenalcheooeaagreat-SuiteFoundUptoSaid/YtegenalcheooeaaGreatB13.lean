/- Of the proof of a law of the suites: SortS, Accepts, After, OpenA, SayB. -/
import Derived.Test.YtegenalcheooeaaGreatB10
import Derived.Test.YtegenalcheooeaaGreatB12
import Derived.Test.YtegenalcheooeaaGreatLaid
import Derived.Shelf.SlGeneric
import Derived.Shelf.SlSortCmp.Whole1
import Derived.Shelf.SlSortCmp.NoneTotal
import Derived.Lib.OwnBridge
import Derived.Test.YtegenalcheooeaaGreatRows
import Derived.ProofKit
import Derived.OpenShut
import Derived.JoinedCond
import Derived.Deep.Strs
import Derived.ChangeStays
import Derived.ChangeBook
set_option linter.unusedSectionVars false
set_option linter.unusedSimpArgs false
set_option linter.unusedVariables false
namespace Go.Proofs.YtegenalcheooeaaGreat
open Go.RowKit
attribute [local go_sem] cell?_exto
section
open Go.Shelf Go.Sort Go.Lib
theorem qrl (w:World) (os:Array Obj):w.grownBy (grow w os) none:=⟨rfl,rfl,rfl,by simp [grow],fun k hk _=>by simp [grow,Array.getElem?_append_left hk]⟩
theorem qoz {a b:World} (h:qad a b):∃ q os,b=grow (a.drewN q) os:=by
 refine ⟨b.drawn-a.drawn,b.heap.extract a.heap.size b.heap.size,?_⟩
 obtain ⟨bh,bt,bd,bo,bu⟩:=b
 obtain ⟨ah,at',ad,ao,au⟩:=a
 obtain ⟨⟨e1,e2,e3,e4,e5⟩,e6⟩:=h
 simp only at e1 e2 e3 e4 e5 e6
 subst e1 e2 e3
 simp only [grow,World.drewN,World.mk.injEq,true_and,and_true]
 refine ⟨?_,by omega⟩
 apply Array.ext_getElem?
 intro k
 by_cases hk:k<ah.size
 ·rw [Array.getElem?_append_left hk]
  exact e5 k hk
 ·rw [Array.getElem?_append_right (by omega),Array.getElem?_extract]
  by_cases hk2:k<bh.size
  ·rw [if_pos (by omega)]
   congr 1
   omega
  ·rw [if_neg (by omega),Array.getElem?_eq_none (by omega)]
theorem swo_of {α β:Type} {cf:α->α->Int} (h:qde cf) (f:β->α):SWO (ltOf fun x y=>cf (f x) (f y)):={
 irrefl x:=by simp [ltOf,h.refl]
 trans x y z h1 h2:=by
  simp only [ltOf,decide_eq_true_eq] at *
  exact h.trans _ _ _ h1 h2
 ntrans x y z h1 h2:=by
  simp only [ltOf,decide_eq_false_iff_not,Int.not_lt] at *
  by_cases e1:cf (f x) (f y)=0
  ·rw [h.eq _ _ e1];exact h2
  ·have h3:=(h.sgn (f y) (f x)).2 (by omega)
   by_cases h4:cf (f x) (f z)<0
   ·have:=h.trans _ _ _ h3 h4
    omega
   ·omega }
section
variable {α:Type} [Inhabited α]
theorem qkg (enc:α->Value) (w:World) (g n:Nat) (d:Array α) (os:Array Obj):w.grownBy (sortWorld enc w g 0 n d os) (some g):=by
 refine ⟨rfl,rfl,rfl,by simp [sortWorld,grow,putRow,mapBlock,Sort.ahead],fun k hk hne=>?_⟩
 have hk':k<(putRow enc (Sort.ahead w n) g 0 d).heap.size:=by simpa [putRow,mapBlock,Sort.ahead] using hk
 have:g≠k:=fun e=>hne (by rw [e])
 unfold sortWorld
 simp only [grow,Array.getElem?_append_left hk']
 simp [putRow,mapBlock,Sort.ahead,Array.getElem?_modify,this]
theorem qvq {enc:α->Value} {w:World} {base:Nat} {e:TypeId} {g n cap q:Nat} {zs ys:List α} {os:Array Obj} (h:w.ownsRow base e 1 (.slice (some ⟨g,0,none⟩) n cap) n (zs.map enc)) (hy:ys.length=n) :
  (sortWorld enc w g 0 q ys.toArray os).ownsRow base e 1 (.slice (some ⟨g,0,none⟩) n cap) n (ys.map enc):=by
 have h1:=ownsRow_putRow (q:=q) h hy (Nat.le_refl n)
 rw [<- hy,List.take_length,hy] at h1
 exact h1.kept (qrl _ os) (.inr (by simp [Value.ownBlock]))
end
abbrev SE (S:Nat->Prop) (w:World):Type:={ p:List Lb×Value // qaa S w p.1 [p.2] }
instance (S:Nat->Prop) (w:World):Inhabited (SE S w):=⟨⟨([],.slice none 0 0),none,0,rfl,Nat.le_refl _,by decide,.inl rfl⟩⟩
theorem flat_se {S:Nat->Prop} {w:World}:∀ {l:List (List Lb)} {cs:List Value},Flat qaa 1 S w l cs->∃ ds:List (SE S w),ds.map (fun p=>p.1.1)=l∧ds.map (fun p=>p.1.2)=cs
 | [],cs,h=>⟨[],rfl,(show cs=[] from h).symm⟩
 | x :: l,cs,⟨c1,c2,h1,h2,h3,h4⟩=>by
  obtain ⟨ds,e1,e2⟩:=flat_se h4
  match c1,h2 with
  | [u],_=>exact ⟨⟨(x,u),h3⟩ :: ds,by rw [List.map_cons,e1],by rw [List.map_cons,e2,h1];rfl⟩
theorem se_flat {S S':Nat->Prop} {w w':World} (hm:∀ x u,qaa S w x [u]->qaa S' w' x [u]):∀ ds:List (SE S w),Flat qaa 1 S' w' (ds.map fun p=>p.1.1) (ds.map fun p=>p.1.2)
 | []=>rfl
 | p :: ds=>⟨[p.1.2],ds.map (fun p=>p.1.2),rfl,rfl,hm _ _ p.2,se_flat hm ds⟩
theorem eg143:∀ args w,(callFunc 143 args).run Tryz.prog w = .ok (.enter 143 args) w:=enters_of Tryz.func143 (by kernel_rfl) rfl
theorem ordS:qde qe3:=ordL qbr
def qb9 (l:List (List Lb)):List (List Lb):=qcu qe3 l
set_option maxHeartbeats 1000000 in
set_option maxRecDepth 100000 in
theorem qn4 (base:Nat) (T:Nat->Prop) (l:List (List Lb)) (v:Value) (w:World) (hown:qab qaa 1 22 base T w l v) (hlen:l.length<4611686018427387904) :
  Calls Tryz.prog 142 #[v,.func (.func 143) #[] #[]] w fun e w'=>e = .returned (.tuple #[])∧qab qaa 1 22 base T w' (qb9 l) v∧Bt (fun b=>v.ownBlock=some b) w w':=by
 obtain ⟨news,hrow,hF⟩:=hown
 by_cases hv:v = .slice none 0 0
 ·subst hv
  have hl0:l=[]:=by
   rcases hrow.2 with ⟨_,h⟩ | ⟨g,cap,cur,h,_⟩
   ·exact List.length_eq_zero_iff.1 h
   ·cases h
  subst hl0
  refine (AnyF.slices_SortFunc_none Tryz.lays142n none 0 _ w).mono ?_
  rintro e w' ⟨rfl,rfl⟩
  exact ⟨rfl,qab.nil ..,Bt.refl _ _⟩
 obtain ⟨g,cap,rfl⟩:∃ g cap,v = .slice (some ⟨g,0,none⟩) l.length cap:=by
  rcases Joins.ownsRow_forms hrow with ⟨h,_⟩ | h
  ·exact absurd h hv
  ·exact h
 rw [qex] at hF
 obtain ⟨ds,rfl,rfl⟩:=flat_se hF
 have hgl:=(qb1 hrow g rfl).2
 have hn:(ds.map fun p=>p.1.1).length=ds.length:=List.length_map ..
 have hrow2:w.ownsRow base 22 1 (.slice (some ⟨g,0,none⟩) ds.length cap) ds.length (ds.map fun p=>p.1.2):=by rw [<- hn];exact hrow
 obtain ⟨g',cap',he,_,_,_,_,_,hH⟩:=holds_of_ownsRow (enc:=fun p:SE (fun b=>T b∧b≠g) w=>p.1.2) hrow2 (by simp)
 have hgg:g'=g:=by injection he with h1;injection h1 with h1;injection h1 with h1;exact h1.symm
 subst hgg
 have hsz:ds.toArray.size=ds.length:=by simp
 have hcmp:CmpLays1 Tryz.prog 143 #[] (fun p:SE (fun b=>T b∧b≠g') w=>p.1.2) (fun x y=>qe3 x.1.1 y.1.1) g' 0 ds.toArray.size w:=fun m os dk hs x y=>by
  have hk:Kp (fun b=>T b∧b≠g') w (sortWorld (fun p:SE (fun b=>T b∧b≠g') w=>p.1.2) w g' 0 m dk os) :=
   (Kp.grown (qkg _ w g' m dk os)).mono fun k _ h e=>h.2 (by injection e)
  refine (sets_c (fun b=>T b∧b≠g') x.1.1 y.1.1 x.1.2 y.1.2 _ (qaa.good.move x.2 hk) (qaa.good.move y.2 hk)).mono ?_
  rintro e w' ⟨rfl,h⟩
  exact ⟨rfl,qoz h⟩
 have h:=Any.slices_SortFunc Tryz.lays142 (fun p:SE (fun b=>T b∧b≠g') w=>p.1.2) (fun p=>p.2.oneCell) (fun x y=>qe3 x.1.1 y.1.1) (swo_of ordS _) 143 #[] g' 0 cap ds.toArray w eg143 hcmp hH hgl (by rw [hsz];omega)
 rw [hsz] at h
 rw [hn]
 refine h.mono ?_
 rintro e w' ⟨rfl,d',n,os,hp,hs,rfl⟩
 refine ⟨rfl,?_,(Bt.of_grown (qkg _ w g' n d' os)).mono fun k _ hk=>by injection hk with hk;rw [hk];rfl⟩
 have hd:d'.size=ds.length:=by rw [hp.1,hsz]
 have hperm:(d'.toList.map fun p=>p.1.1).Perm (ds.map fun p=>p.1.1):=by
  have h3:=hp.2.2
  rw [<- hd,Array.extract_size] at h3
  have h4:(ds.toArray.extract 0 d'.size).toList=ds:=by rw [hd,<- hsz,Array.extract_size]
  rw [h4] at h3
  exact h3.map _
 have hsrt:Srt qe3 (d'.toList.map fun p=>p.1.1):=by
  rw [Srt,List.pairwise_map,List.pairwise_iff_getElem]
  intro i j hi hj hij
  have h5:=hs i j (Nat.zero_le _) hij (by rw [<- hd];simpa using hj)
  simp only [ltOf,decide_eq_false_iff_not,Int.not_lt] at h5
  rw [getElem!_pos d' i (by simpa using hi),getElem!_pos d' j (by simpa using hj)] at h5
  have h6:=ordS.sgn d'[i].1.1 d'[j].1.1
  have h7:=ordS.sgn d'[j].1.1 d'[i].1.1
  simp only [Array.getElem_toList]
  omega
 have heq:qb9 (ds.map fun p=>p.1.1)=d'.toList.map fun p=>p.1.1:=(qrn ordS hperm hsrt).symm
 rw [heq]
 have hbt:=qkg (fun p:SE (fun b=>T b∧b≠g') w=>p.1.2) w g' n d' os
 have ho:=qvq (q:=n) (os:=os) hrow2 (ys:=d'.toList) (by simpa using hd)
 refine ⟨d'.toList.map fun p=>p.1.2,?_,?_⟩
 ·rw [List.length_map,show d'.toList.length=ds.length from by simpa using hd]
  simpa using ho
 ·rw [qex]
  exact se_flat (fun x u hx=>qaa.good.move hx ((Kp.grown hbt).mono fun k _ h e=>h.2 (by injection e))) _
end
section
open Go.Shelf
attribute [local go_sem] Oper.semAt_some
def qhq (s:Sy) (n:Int) (j:Fin s.es.length):Bool:=decide (s.es[j].l=n) && qem s s.es[j].l (fun y=>qa0 y.g)
def qes (s:Sy) (p:Int->Bool) (pre:List (Fin s.es.length)) (n:Int):Bool:=p n || pre.any (qhq s n)
def qc3 (s:Sy) (sts:List Int) (n:Int):Bool:=sts.any fun st=>(qaw s.es st).any (qhq s n)
def qbf (p:Int->Bool):Nat->List Lb->List Lb
 | _,[]=>[]
 | i,x :: xs=>if p i then x :: qbf p (i+1) xs else qbf p (i+1) xs
def qa7 (s:Sy) (st:Int):List Lb:=qbf (qc3 s (qau s [st])) 0 s.ls
theorem qpp (p:Int->Bool):∀ (xs ys:List Lb) (i:Nat),qbf p i (xs++ys)=qbf p i xs++qbf p (i+xs.length) ys
 | [],ys,i=>by simp [qbf]
 | x :: xs,ys,i=>by
  have h:=qpp p xs ys (i+1)
  rw [List.cons_append,qbf,qbf,h,List.length_cons,show i+1+xs.length=i+(xs.length+1) from by omega]
  split <;> rfl
theorem qvb (p:Int->Bool) (xs:List Lb) (k:Nat) (h:k<xs.length):qbf p 0 (xs.take (k+1))=if p k then qbf p 0 (xs.take k)++[xs[k]] else qbf p 0 (xs.take k):=by
 rw [List.take_succ_eq_append_getElem h,qpp,List.length_take,Nat.min_eq_left (by omega),Nat.zero_add,qbf,qbf]
 split <;> simp
theorem qol (p:Int->Bool):∀ (i:Nat) (xs:List Lb),(qbf p i xs).length<=xs.length
 | _,[]=>by simp [qbf]
 | i,x :: xs=>by
  have:=qol p (i+1) xs
  rw [qbf]
  split <;> simp only [List.length_cons] <;> omega
theorem accL_len (s:Sy) (st:Int):(qa7 s st).length<=s.ls.length:=qol _ _ _
theorem qo8 (s:Sy) (p:Int->Bool) (pre:List (Fin s.es.length)) (j:Fin s.es.length) (n:Int):qes s p (pre++[j]) n=(qes s p pre n || qhq s n j):=by simp [qes,Bool.or_assoc]
theorem quc (s:Sy) (sts:List Int) (st:Int) (n:Int):qc3 s (sts++[st]) n=qes s (qc3 s sts) (qaw s.es st) n:=by simp [qc3,qes]
def fB (p:Int->Bool) (n:Int):Option Value:=if p n then some (.bool true) else none
theorem fB_get (p:Int->Bool) (n:Int):(fB p n).getD (.bool false) = .bool (p n):=by
 unfold fB
 split
 ·rename_i h;rw [h];rfl
 ·rename_i h;rw [eq_false_of_ne_true h];rfl
theorem fB_same (s:Sy) (p:Int->Bool) (pre:List (Fin s.es.length)) (j:Fin s.es.length) (h:qem s s.es[j].l (fun y=>qa0 y.g)=false):fB (qes s p (pre++[j]))=fB (qes s p pre):=by
 funext n
 unfold fB
 rw [qo8,qhq,h,Bool.and_false,Bool.or_false]
theorem fB_add (s:Sy) (p:Int->Bool) (pre:List (Fin s.es.length)) (j:Fin s.es.length) (h:qem s s.es[j].l (fun y=>qa0 y.g)=true):fB (qes s p (pre++[j]))=fun n=>if n=s.es[j].l then some (.bool true) else fB (qes s p pre) n:=by
 funext n
 unfold fB
 rw [qo8,qhq,h,Bool.and_true]
 by_cases e:n=s.es[j].l
 ·simp [e]
 ·have e':¬ s.es[j].l=n:=fun h=>e h.symm
  rw [decide_eq_false e',Bool.or_false,if_neg e]
theorem qew (w:World) (cs:Array Value) (t:TypeId):∀ j u,cs.toList[j]? = some u->(w.alloc (.cells cs t)).cell? ((⟨w.heap.size,0,none⟩:Addr).add j)=some u:=fun j u h=>by
 rw [Addr.add_lit,Nat.zero_add]
 exact (cell_of_row _ _ j _ _ _ (World.alloc_heap_new w _)).trans (by simpa using h)
def LbPost (T:Nat->Prop) (base:Nat) (r:List Lb) (w:World) (e:Ending) (w':World):Prop:=∃ A c,e = .returned (.slice A r.length c)∧qab RLb 2 61 base T w' r (.slice A r.length c)∧Ext w w'
set_option maxHeartbeats 1000000 in
set_option maxRecDepth 100000 in
theorem qnp (S:Nat->Prop) (s:Sy) (hok:qag s) (g:Nat) (st:Int) (w:World) (hst:I64 st) (hS:qav S w g s) :
  Calls Tryz.prog 141 #[.pointer (some ⟨g,0,none⟩),.int .i64 st] w (LbPost (fun q=>S q∧q<w.heap.size) w.heap.size (qa7 s st) w):=by
 have HS:=Hd hS
 clear hS
 have hmm:=@run_makeMap Tryz.prog
 refine (callsIn_wide (n:=3)).1 ?_
 refine callsIn_of_wp_marks Tryz.func141 rfl trivial ?_ rfl
 simp only [Tryz.ntmps141,List.size_toArray,List.length_cons,List.length_nil,Nat.reduceAdd,Nat.reduceSub,Array.replicate_succ,Array.replicate_zero,List.push_toArray,List.append_toArray,List.nil_append,List.cons_append]
 gi_wp2_with fail
 obtain ⟨Wa,hWa⟩:∃ Wa,((w.alloc (.cells #[.pointer (some ⟨g,0,none⟩)] 111)).alloc (.map #[] 0)).alloc (.cells #[.map (some (w.heap.size+1))] 240)=Wa:=⟨_,rfl⟩
 have hX1:Ext w Wa:=by rw [<- hWa];exact (((Ext.refl w).alloc _).alloc _).alloc _
 have bS1:Boxed Wa w.heap.size 111 (.pointer (some ⟨g,0,none⟩)):=by rw [<- hWa];exact ((Boxed.new w 111 _).alloc _).alloc _
 have hM1:IsMap (Value.int .i64) Wa (w.heap.size+1) (fB (qc3 s [])):=by
  rw [<- hWa]
  have h:=IsMap.new (Value.int .i64) (w.alloc (.cells #[.pointer (some ⟨g,0,none⟩)] 111))
  rw [World.size_alloc] at h
  have e:fB (qc3 s [])=fun _=>none:=by funext n;simp [fB,qc3]
  rw [e]
  exact h.move (Below.heap_alloc _ _ _ (by simp))
 have bM1:Boxed Wa (w.heap.size+2) 240 (.map (some (w.heap.size+1))):=by
  rw [<- hWa]
  have h:=Boxed.new ((w.alloc (.cells #[.pointer (some ⟨g,0,none⟩)] 111)).alloc (.map #[] 0)) 240 (.map (some (w.heap.size+1)))
  rwa [World.size_alloc,World.size_alloc] at h
 have hszA:Wa.heap.size=w.heap.size+3:=by rw [<- hWa];simp
 have hc2:=(qlx (fun _=>True) s hok g [st] _ _ ((HS.out.mono fun _ _ _=>trivial).bel (hX1.trans' ((Ext.refl Wa).alloc _))) (qnz Wa st hst trivial) (by simp)).mono fun e w' h=>qfz.at h (b':=w.heap.size+4) (by simp;omega)
 rw [hWa]
 rw [hszA] at hc2
 clear hWa
 refine ⟨trivial,?_⟩
 gi_at_call 208
 refine (callsIn_wide.2 hc2).mono ?_
 rintro e w1 ⟨At,ct,rfl,ho1,hx1⟩
 obtain ⟨ts,hts⟩:∃ ts,qau s [st]=ts:=⟨_,rfl⟩
 have hlt:ts.length<=200000:=by rw [<- hts];have:=qj2 s [st];have:=qf6 s [st];have:=hok.2.2.2.1;simp only [List.length_cons,List.length_nil] at *;omega
 have hval:Hid (qa7 s st=qbf (qc3 s ts) 0 s.ls):=by show _=_;rw [qa7,hts]
 rw [hts] at ho1 ⊢
 clear hts hc2
 have hXa:Ext Wa w1:=((Ext.refl Wa).alloc _).trans' hx1
 have hX2:Ext w w1:=hX1.trans' hXa
 have hsz1:w.heap.size+4<=w1.heap.size:=by have:=hx1.size;simp at this;omega
 have HB1:=Hd ((Ext.kp (S:=fun _=>True) hXa).block _ bS1.lt trivial |>.trans bS1:Boxed w1 w.heap.size 111 _)
 have HB2:=Hd (hM1.move ((Ext.kp (S:=fun _=>True) hXa).block _ hM1.lt trivial))
 have HB3:=Hd ((Ext.kp (S:=fun _=>True) hXa).block _ bM1.lt trivial |>.trans bM1:Boxed w1 (w.heap.size+2) 240 _)
 have HTS:=Hd ho1
 clear ho1 bS1 hM1 bM1 hx1
 gi_wp2_with fail
 refine wpIn_loop (fun a' wr=>∃ u7 u19 u20 u21 u22 u23 u24 u25 u41:Value,∃ (ds:List Deferred),(∃ (k:Nat),u19=Value.int .i64 (k:Int)∧k<=ts.length∧Boxed wr w.heap.size 111 (.pointer (some ⟨g,0,none⟩))∧Boxed wr (w.heap.size+2) 240 (.map (some (w.heap.size+1)))∧IsMap (Value.int .i64) wr (w.heap.size+1) (fB (qc3 s (ts.take k)))∧qab qac 1 3 (w.heap.size+4) (fun _=>False) wr ts (.slice At ts.length ct) ∧
   Marks (w.heap.size+4) ds wr∧Ext w wr) ∧
   a'={ tmps:=#[Value.pointer (some ⟨g,0,none⟩),Value.int .i64 st,Value.pointer (some ⟨w.heap.size,0,none⟩),undef,Value.slice none 0 0,Value.pointer (some ⟨w.heap.size+2,0,none⟩),undef,u7,undef,undef,undef,undef,undef,Value.map (some (w.heap.size+1)),Value.pointer (some ⟨g,0,none⟩),Value.int .i64 st,Value.slice (some ⟨w.heap.size+3,0,none⟩) 1 1,Value.slice At ts.length ct,Value.int .i64 (ts.length:Int),u19,u20,u21,u22,u23,u24,u25,undef,undef,undef,undef,undef,undef,undef,undef,undef,undef,undef,undef,undef,undef,undef,u41,undef,undef,undef,undef,undef,undef,undef,undef,undef,undef,undef,undef,undef,undef,undef,undef,undef,undef,undef,undef],defers:=ds })
  (fun a' _=>ts.length-(intOf (a'.tmps.getD 19 undef)).toNat) ?_ ?_
 ·refine ⟨_,_,_,_,_,_,_,_,_,[],⟨0,rfl,Nat.zero_le _,HB1.out,HB3.out,?_,HTS.out,Marks.nil _ _,hX2⟩,rfl⟩
  exact HB2.out
 clear hX2 hsz1 HB1 HB2 HB3 HTS hXa
 rintro _ wr ⟨u7,u19,u20,u21,u22,u23,u24,u25,u41,ds,⟨k,rfl,hk,q1,qm,hm,hts,hM,hX⟩,rfl⟩
 have e1:=q1.cell
 have em:=qm.cell
 have hltm:=qm.lt
 by_cases hlt2:k<ts.length
 ·obtain ⟨b,off,cs,rfl,hb,hT,hl,hr,hcell⟩:=(hts.sl qac.good (by decide)).get k hlt2
  obtain rfl:=hr.1
  have g0:=(by simpa using hcell.get 0 _:wr.cell? ⟨b,off+k,none⟩=some (.int .i64 ts[k]))
  have HTS:=Hd hts
  have HM:=Hd hM
  have HMP:=Hd hm
  have hc175:=fun W=>(callsIn_wide.1 (qjg 3 (some ⟨g,0,none⟩) ts[k] W))
  clear hts hM hm hcell hr hl hT
  gi_wp2_with fail
  refine ⟨trivial,?_⟩
  gi_at_call 175
  refine (callsIn_wide.2 (hc175 _)).mono ?_
  rintro e w' ⟨rfl,rfl⟩
  gi_wp2_with fail
  obtain ⟨W0,hW0⟩:∃ W0,(wr.alloc (.cells #[.pointer (some ⟨g,0,none⟩)] 111)).alloc (.cells #[.int .i64 ts[k]] 3)=W0:=⟨_,rfl⟩
  have hsz0:W0.heap.size=wr.heap.size+2:=by rw [<- hW0];show (World.heap _).size=_;simp
  have hX0:Ext wr W0:=by rw [<- hW0];exact ((Ext.refl wr).alloc _).alloc _
  have bs0:Boxed W0 wr.heap.size 111 (.pointer (some ⟨g,0,none⟩)):=by rw [<- hW0];exact ((Boxed.new wr 111 _).alloc _)
  have bt0:Boxed W0 (wr.heap.size+1) 3 (.int .i64 ts[k]):=by rw [<- hW0];have:=Boxed.new (wr.alloc (.cells #[.pointer (some ⟨g,0,none⟩)] 111)) 3 (.int .i64 ts[k]);rwa [World.size_alloc] at this
  rw [hW0]
  clear hW0
  obtain ⟨Z,hZ⟩:∃ Z:Nat->Prop,Z=fun q=>(S q∧q<w.heap.size)∨q=wr.heap.size:=⟨_,rfl⟩
  have hS0:qav Z W0 g s:=(HS.out.mono (S':=Z) fun q h1 h2=>by rw [hZ];exact .inl ⟨h2,h1⟩).bel (hX.trans' hX0)
  have hwr:=hX.size
  have hZ':∀ q,Z q->q<W0.heap.size:=fun q hq=>by
   rw [hZ] at hq
   rcases hq with ⟨_,h⟩ | h <;> omega
  have hZn:∀ q,Z q->q≠w.heap.size+1:=fun q hq e=>by
   rw [hZ] at hq
   rcases hq with ⟨_,h⟩ | h <;> omega
  have hm0:IsMap (Value.int .i64) W0 (w.heap.size+1) (fB (qc3 s (ts.take k))):=HMP.out.move ((Ext.kp (S:=fun _=>True) hX0).block _ HMP.out.lt trivial)
  have q10:Boxed W0 w.heap.size 111 (.pointer (some ⟨g,0,none⟩)):=(Ext.kp (S:=fun _=>True) hX0).block _ q1.lt trivial |>.trans q1
  have qm0:Boxed W0 (w.heap.size+2) 240 (.map (some (w.heap.size+1))):=(Ext.kp (S:=fun _=>True) hX0).block _ qm.lt trivial |>.trans qm
  have hIown:OwnFrom W0.heap.size (fun (pre:List (Fin s.es.length)) W=>Bt (fun q=>q=w.heap.size+1) W0 W∧IsMap (Value.int .i64) W (w.heap.size+1) (fB (qes s (qc3 s (ts.take k)) pre))):=(qhr _ W0).and (map_own (by omega) _)
  refine wpIn_rangeFunc_ownH rfl (by omega) (gf:=234) (lb:=#[.pointer (some ⟨wr.heap.size,0,none⟩),.pointer (some ⟨wr.heap.size+1,0,none⟩)]) rfl trivial (enters_of Tryz.func234 (by kernel_rfl) rfl)
   (qjh (3-1) (by omega) Z s g wr.heap.size (wr.heap.size+1) ts[k] (by rw [hZ];exact .inr rfl) W0 hS0 bs0.cell bt0.cell) kp_t (kp_b hZ') (Below.refl _ _) (fun _=>rfl)
   (fun pre W=>Bt (fun q=>q=w.heap.size+1) W0 W∧IsMap (Value.int .i64) W (w.heap.size+1) (fB (qes s (qc3 s (ts.take k)) pre))) (fun _ _ _=>False) hIown (fun _ _ _ _ _ hs _ _=>hs)
   ⟨Bt.refl _ _,by
    have e:qes s (qc3 s (ts.take k)) []=qc3 s (ts.take k):=by funext n;simp [qes]
    rw [e];exact hm0⟩
   (fun i a' W=>∃ Bx,W0.heap.size<=Bx∧W.heap[Bx]? = some (.cells #[.int .i64 s.es[i].f,.int .i64 s.es[i].l,.int .i64 s.es[i].t] 88)∧a'={ tmps:=#[Value.pointer (some ⟨g,0,none⟩),Value.int .i64 st,Value.pointer (some ⟨w.heap.size,0,none⟩),undef,Value.slice none 0 0,Value.pointer (some ⟨w.heap.size+2,0,none⟩),undef,Value.int .i64 ts[k],undef,Value.pointer (some ⟨Bx,0,none⟩),undef,undef,undef,Value.map (some (w.heap.size+1)),Value.pointer (some ⟨g,0,none⟩),Value.int .i64 st,Value.slice (some ⟨w.heap.size+3,0,none⟩) 1 1,Value.slice (some ⟨b,off,none⟩) ts.length ct,Value.int .i64 (ts.length:Int),Value.int .i64 (k:Int),Value.bool true,Value.pointer (some ⟨b,off+k,none⟩),Value.int .i64 ts[k],Value.pointer (some ⟨g,0,none⟩),Value.int .i64 ts[k],Value.func (Fn.func 234) #[] #[Value.pointer (some ⟨wr.heap.size,0,none⟩),Value.pointer (some ⟨wr.heap.size+1,0,none⟩)],Value.int .i64 (i.1:Int),Value.agg #[.int .i64 s.es[i].f,.int .i64 s.es[i].l,.int .i64 s.es[i].t],undef,undef,undef,undef,undef,undef,undef,undef,undef,undef,undef,undef,undef,u41,undef,undef,undef,undef,undef,undef,undef,undef,undef,undef,undef,undef,undef,undef,undef,undef,undef,undef,undef,undef],defers:=[] })
   (fun i a' _ X Y row hs hg hr=>by
    obtain ⟨Bx,h1,h2,h3⟩:=hs
    exact ⟨Bx,h1,(hg.block Bx (Array.getElem?_eq_some_iff.1 h2).1 fun e=>by
     obtain ⟨_,o',h4,h5⟩:=hr Bx e.symm
     rw [h2] at h4
     cases h4
     cases h5).trans h2,h3⟩)
   ?assign ?body ?done ?stop
  case assign =>
   rintro l2 pre i W K hI hK
   unfold qgy
   gi_wp2
   refine hK _ _ ((KeepsOthers.alloc _ _).from _) ⟨by simp,fun q h1 _=>Below.heap_alloc _ _ _ h1⟩ (hIown.alloc _ hI) ⟨W.heap.size,hI.1.size,World.alloc_heap_new W _,rfl⟩
  case body =>
   rintro l2 pre i a' W hl2 _ ⟨hbt,hmW⟩ ⟨Bx,hBx,hbox,rfl⟩ hlen2
   obtain ⟨xi,hxl⟩:=i
   have hed:=(hok.2.2.2.2.2 xi hxl).1
   have hlab:0<=s.es[xi].l∧s.es[xi].l<s.ls.length:=by
    simp only [qbw,isB,Bool.and_eq_true,decide_eq_true_eq] at hed
    omega
   obtain ⟨li,hli⟩:∃ li:Nat,s.es[xi].l=(li:Int):=⟨s.es[xi].l.toNat,by omega⟩
   have hli2:li<s.ls.length:=by omega
   have hkZ:=hbt.kp fun q _ hq=>hZn q hq
   obtain ⟨v',u',m,f,h1,h2,h3,h4,h5,h6,h7,h8⟩:=(hS0.move hkZ).ex
   obtain ⟨bl,ol,cl,csl,rfl,hbl,hSl,hll,hrl,hcl⟩:=h2.at li hli2
   obtain ⟨il,vl,rfl,hvl⟩:=id hrl
   have hvis:=fun X=>qih s.ls[li].g vl (qak W X)
   have g1:W.cell? ⟨g,1,none⟩=some (.slice (some ⟨bl,ol,none⟩) s.ls.length cl):=cell_of_row W _ 1 _ _ _ h1
   have gl:W.cell? ⟨bl,ol+li*2,none⟩=some (.int .i64 s.ls[li].g):=by simpa using hcl.get 0 _
   have gl1:W.cell? ⟨bl,ol+li*2+1,none⟩=some vl:=hcl.get 1 _
   have x1:W.cell? ⟨Bx,1,none⟩=some (.int .i64 (li:Int)):=by rw [<- hli];exact cell_of_row W _ 1 _ _ _ hbox
   have y1:W.cell? ⟨w.heap.size,0,none⟩=some (.pointer (some ⟨g,0,none⟩)):=hbt.cell q10.cell (by simp)
   have ym:W.cell? ⟨w.heap.size+2,0,none⟩=some (.map (some (w.heap.size+1))):=hbt.cell qm0.cell (by simp)
   have hhas:=Hd (qgj s (fun y=>qa0 y.g) hli hli2)
   have HMW:=Hd hmW
   have HBT:=Hd hbt
   clear hmW hbt h2 h3 h6 h7 h8 hrl hcl hvl hed h1 hbox
   by_cases hvb:qa0 s.ls[li].g=true
   ·have hv:∀ X,Calls Tryz.prog 176 #[.agg #[.int .i64 s.ls[li].g,vl]] (qak W X) fun e w'=>e = .returned (.bool true)∧Ext (qak W X) w':=fun X=>by have:=hvis X;rwa [hvb] at this
    have hadd:=Hd (fB_add s (qc3 s (ts.take k)) pre ⟨xi,hxl⟩ (by show qem s s.es[xi].l _=true;rw [hhas.out];exact hvb))
    clear hvis hvb
    gi_wp2_with fail
    (refine qcy (by kernel_rfl) (by kernel_rfl) (by kernel_rfl) ?_;(repeat (first | go_big_quiet_step ((go_at_call 176;exact qbe (hv _))) | quiet_step ((go_at_call 176;exact qbe (hv _)))));refine wpQuiet_nil ?_)
    intro w4 hx4
    have x4:=Ext.keep hx4 x1
    have y4:=Ext.keep hx4 ym
    obtain ⟨w5,hr5,hm5,hg5⟩:=(HMW.out.move ((Ext.kp (S:=fun _=>True) hx4).block _ HMW.out.lt trivial)).store (P:=Tryz.prog) Tryz.underlying240 qg8 (li:Int) (.bool true)
    have HM5:=Hd hm5
    have HG5:=Hd hg5
    clear hm5 hg5 x1 ym y1 g1 gl gl1
    gi_wp2_with fail
    have hb5:Bt (fun q=>q=w.heap.size+1) w4 w5:=(Bt.of_grown HG5.out).mono fun q _ e=>by injection e
    have hbW:=(hx4.bt (Z:=fun q=>q=w.heap.size+1)).trans hb5
    refine ⟨qj1 hbW _ fun q o hn hq _=>by omega,hbW.kp fun q _ hq=>hZn q hq,HBT.out.trans hbW,?_⟩
    rw [hadd.out]
    show IsMap _ _ _ (fun n=>if n=s.es[xi].l then _ else _)
    rw [hli]
    exact HM5.out
   ·have hv:∀ X,Calls Tryz.prog 176 #[.agg #[.int .i64 s.ls[li].g,vl]] (qak W X) fun e w'=>e = .returned (.bool false)∧Ext (qak W X) w':=fun X=>by have:=hvis X;rwa [eq_false_of_ne_true hvb] at this
    have hsame:=Hd (fB_same s (qc3 s (ts.take k)) pre ⟨xi,hxl⟩ (by show qem s s.es[xi].l _=false;rw [hhas.out];exact eq_false_of_ne_true hvb))
    clear hvis hvb
    gi_wp2_with fail
    (refine qcy (by kernel_rfl) (by kernel_rfl) (by kernel_rfl) ?_;(repeat (first | go_big_quiet_step ((go_at_call 176;exact qbe (hv _))) | quiet_step ((go_at_call 176;exact qbe (hv _)))));refine wpQuiet_nil ?_)
    intro w4 hx4
    gi_wp2
    refine ⟨qeq hx4 _,Ext.kp hx4,HBT.out.ext hx4,?_⟩
    rw [hsame.out]
    exact HMW.out.move ((Ext.kp (S:=fun _=>True) hx4).block _ HMW.out.lt trivial)
  case done =>
   rintro D ys W hD rfl ⟨hbt,hmW⟩ hD0
   have HD:=Hd hD0
   have HMW:=Hd hmW
   have HBT:=Hd hbt
   clear hD0 hmW hbt
   gi_wp2
   have hsW:=HBT.out.size
   refine ⟨⟨_,_,_,_,_,_,_,_,_,_,?calmP,rfl⟩,?calmM⟩
   case calmP =>
    have hbx:Boxed W w.heap.size 111 (.pointer (some ⟨g,0,none⟩)):=(HBT.out.block _ q10.lt (by omega)).trans q10
    have hbm:Boxed W (w.heap.size+2) 240 (.map (some (w.heap.size+1))):=(HBT.out.block _ qm0.lt (by omega)).trans qm0
    have hXX:Ext w W:=Bt.new (hX.trans' hX0) HBT.out fun q _ hq=>by omega
    refine ⟨k+1,by go_num,by omega,hbx,hbm,?_,?_,HM.out.cons (by omega) (by omega) HD.out fun r h1 h2=>?_,hXX⟩
    ·have e:qc3 s (ts.take (k+1))=qes s (qc3 s (ts.take k)) (qaw s.es ts[k]):=by funext n;rw [List.take_succ_eq_append_getElem hlt2,quc]
     rw [e]
     exact HMW.out
    ·exact (HTS.out.ext qac.good hX0).bt qac.good HBT.out fun q _ hq=>⟨fun h=>h,fun e=>by
      obtain ⟨news,h1,_⟩:=HTS.out
      have:=(qb1 h1 q e).1
      have hq':q=w.heap.size+1:=hq
      omega⟩
    ·have h3:W0.heap[r]? = some (.deferred (some [])):=((Ext.kp (S:=fun _=>True) hX0).block r h1 trivial).trans h2
     refine (HBT.out.block r (by omega) ?_).trans h3
     rintro rfl
     obtain ⟨es,clock,ks,h4,_⟩:=hm0
     rw [h4] at h3
     cases h3
   case calmM=>simp [intOf];omega
  case stop =>
   rintro D c pre W _ _ h _
   exact h.elim
 ·have hkk:ts.take k=ts:=List.take_of_length_le (by omega)
  rw [hkk] at hm
  have HM:=Hd hM
  have HMP:=Hd hm
  obtain ⟨p,hp⟩:∃ p,qc3 s ts=p:=⟨_,rfl⟩
  rw [hp] at HMP hval
  obtain ⟨v',u',m,f,h1,h2,h3,h4,h5,h6,h7,h8⟩:=HS.out.ex
  obtain ⟨Al,cl,rfl,hcl,hcl0⟩:=h2.val
  have g1:wr.cell? ⟨g,1,none⟩=some (.slice Al s.ls.length cl):=Ext.keep hX (cell_of_row w _ 1 _ _ _ h1)
  have HLS:=Hd (qaa.good.bel (qaa.good.mono h2 (S':=fun q=>S q∧q<w.heap.size) fun _ hb h=>⟨h,hb⟩) hX)
  have hls:=hok.2.2.1
  have hwr4:w.heap.size+3<=wr.heap.size:=hltm
  have hlb:=qhm
  clear hts hM hm hkk hp h2 h3 h4 h5 h6 h7 h8 h1
  obtain ⟨we,rfl⟩:∃ we,we=wr:=⟨_,rfl⟩
  gi_wp2_with fail
  gi_loopw [10,48] (fun vo vi wx=>∃ (k:Nat) (A:Option Addr) (c:Nat),k<=s.ls.length∧vi = .int .i64 k∧vo = .slice A (qbf p 0 (s.ls.take k)).length c∧qab RLb 2 61 we.heap.size (fun q=>S q∧q<w.heap.size) wx (qbf p 0 (s.ls.take k)) (.slice A (qbf p 0 (s.ls.take k)).length c)∧Ext we wx) (fun _ vi _=>s.ls.length-(intOf vi).toNat)
  case atStart=>exact ⟨0,none,0,Nat.zero_le _,rfl,rfl,qab.nil ..,Ext.refl _⟩
  case round =>
   obtain ⟨j,A,c,hj,rfl,rfl,hown,hE⟩:=hrel
   by_cases hlt:j<s.ls.length
   ·obtain ⟨b,off,cs,rfl,hb,hT,hl,hr,hcell⟩:=(qaa.good.bel HLS.out hE).get j hlt
    obtain ⟨hi,vl,rfl,hvl⟩:=id hr
    have a0:=hcell.get 0 _
    have a1:=hcell.get 1 _
    simp only [Nat.add_zero] at a0
    obtain ⟨Av,cv,rfl,_,_⟩:=hvl.val
    have em':=Ext.keep hE em
    have hltm2:w.heap.size+2<wr.heap.size:=Nat.lt_of_lt_of_le hltm hE.size
    obtain ⟨wb,hwb⟩:∃ wb,wb=wr.alloc (.cells #[.int .i64 s.ls[j].g,.slice Av s.ls[j].v.length cv] 61):=⟨_,rfl⟩
    have hXb:Ext we wb:=by rw [hwb];exact hE.alloc _
    have hlk:=(HMP.out.move ((Ext.kp (S:=fun _=>True) hXb).block _ HMP.out.lt trivial)).lookup (P:=Tryz.prog) Tryz.underlying240 qg8 (z:=.bool false) (by kernel_rfl) (j:Int)
    rw [fB_get] at hlk
    have hst:=Hd (qvb p s.ls j hlt)
    have hlen:=qol p 0 (s.ls.take j)
    rw [List.length_take] at hlen
    by_cases hp:p (j:Int)=true
    ·rw [hp] at hlk
     have hst2:Hid (qbf p 0 (s.ls.take (j+1))=qbf p 0 (s.ls.take j)++[s.ls[j]]):=by show _=_;rw [hst.out,if_pos hp]
     obtain ⟨i3,hi3,hzz⟩:=Option.map_eq_some_iff.1 hlb
     simp only [Prod.mk.injEq] at hzz
     obtain ⟨hz0,hz1,hz2⟩:=hzz
     have ho2:qab RLb 2 61 we.heap.size (fun q=>S q∧q<w.heap.size) (wb.alloc (.cells #[.int .i64 s.ls[j].g,.slice Av s.ls[j].v.length cv] 61)) (qbf p 0 (s.ls.take j)) (.slice A (qbf p 0 (s.ls.take j)).length c):=hown.ext RLb.good (by rw [hwb];exact ((Ext.refl _).alloc _).alloc _)
     have hr2:RLb (fun q=>(S q∧q<w.heap.size)∧(Value.slice A (qbf p 0 (s.ls.take j)).length c).ownBlock≠some q) (wb.alloc (.cells #[.int .i64 s.ls[j].g,.slice Av s.ls[j].v.length cv] 61)) s.ls[j] [.int .i64 s.ls[j].g,.slice Av s.ls[j].v.length cv] :=
      RLb.good.bel (RLb.good.mono hr fun q _ hq=>⟨hq,fun e=>by
       obtain ⟨news,h1,_⟩:=hown
       have:=(qb1 h1 q e).1
       omega⟩) (by rw [hwb];exact ((Ext.refl _).alloc _).alloc _)
     obtain ⟨news,hrow,hF⟩:=ho2
     have HR2:=Hd hr2
     have HF:=Hd hF
     have hszb:wb.heap.size=wr.heap.size+1:=by rw [hwb];simp
     have hszE:=hE.size
     subst hwb
     have hcc:=qew (wr.alloc (.cells #[.int .i64 s.ls[j].g,.slice Av s.ls[j].v.length cv] 61)) #[.int .i64 s.ls[j].g,.slice Av s.ls[j].v.length cv] 61
     rw [World.size_alloc] at hcc
     clear hr2 hF hr hvl hl hown hst hp hlb
     gi_wp2_with (gi_at_builtin;refine qoq _ rfl _ _ 22 rfl we.heap.size 61 i3 _ 2 32 Tryz.underlying22 hi3 hz0 hz1 hz2 rfl (by decide) _ _ _ rfl hrow ⟨wr.heap.size+1,0,none⟩ 1 1 [.int .i64 s.ls[j].g,.slice Av s.ls[j].v.length cv] rfl rfl hcc (by simp [Value.oneCell']) (by unfold maxLen;omega) (by omega) (by simp;omega) ?_;intro v5 w5 hown5 hgrow5 hat5;obtain ⟨g5,c5,rfl⟩:=ownsRow_succ hown5)
     have hp5:=Hd (qab.push RLb.good HF.out (Flat.single HR2.out rfl) hown5 hgrow5 hat5)
     have hX5:Ext we w5:=Below.grown ((hE.alloc _).alloc _) hgrow5 (by simp;omega) fun q hq=>(qb1 hrow q hq).1
     clear hown5 hgrow5 hat5 hrow hcc
     gi_wp2_with fail
     go_roundw
     case rel=>exact ⟨j+1,some ⟨g5,0,none⟩,c5,by omega,by go_num,by rw [hst2.out,List.length_append];rfl,by rw [hst2.out,List.length_append];exact hp5.out,hX5⟩
     case measure=>simp [intOf];omega
    ·rw [eq_false_of_ne_true hp] at hlk
     have hst2:Hid (qbf p 0 (s.ls.take (j+1))=qbf p 0 (s.ls.take j)):=by show _=_;rw [hst.out,if_neg hp]
     have HO:=Hd hown
     subst hwb
     clear hr hvl hl hown hst hp hlb
     gi_wp2_with fail
     go_roundw
     case rel=>exact ⟨j+1,A,c,by omega,by go_num,by rw [hst2.out],by rw [hst2.out];exact HO.out.ext RLb.good ((Ext.refl _).alloc _),hE.alloc _⟩
     case measure=>simp [intOf];omega
   ·have hkk:Hid (qa7 s st=qbf p 0 (s.ls.take j)):=by show _=_;rw [hval.out,List.take_of_length_le (by omega)]
    have HO:=Hd hown
    clear hown
    gi_wp2_with fail
    have hM2:Marks (w.heap.size+4) ds wr:=HM.out.keep fun r hr h=>((Ext.kp (S:=fun _=>True) hE).block r (Array.getElem?_eq_some_iff.1 h).1 trivial).trans h
    refine Marks.leave (by simp) hM2 fun w3 hb3=>?_
    refine ⟨_,results_tmp rfl _ _ _,A,c,?_,?_,?_⟩
    ·rw [hkk.out];rfl
    ·rw [hkk.out]
     exact (HO.out.bt RLb.good hb3 fun b _ hz=>⟨fun h=>by have:=h.2;have:=hz.1;omega,HO.out.not_def hz.2⟩).base (by omega)
    ·exact Bt.new (hX.trans' hE) hb3 fun i _ hi=>by have:=hi.1;omega
end
section
open Go.Shelf
attribute [local go_sem] Oper.semAt_some
def lastL (s:Sy) (tr:List Lb):Nat->List Int
 | 0=>[]
 | k+1=>qal s (tr.take k)
set_option maxHeartbeats 1000000 in
set_option maxRecDepth 100000 in
theorem qji (S:Nat->Prop) (s:Sy) (hok:qag s) (g:Nat) (tr:List Lb) (v:Value) (w:World) (hS:qav S w g s) (ht:qaa S w tr [v]) (htr:tr.length<=4611686018427387903) :
  Calls Tryz.prog 81 #[.pointer (some ⟨g,0,none⟩),v] w (qfz w.heap.size (qal s tr) w):=by
 have HS:=Hd hS
 have HT:=Hd ht
 obtain ⟨At,ct,rfl,hct,hct0⟩:=ht.val
 clear hS ht
 refine (callsIn_wide (n:=3)).1 ?_
 refine callsIn_of_wp_marks Tryz.func81 rfl trivial ?_ rfl
 simp only [Tryz.ntmps81,List.size_toArray,List.length_cons,List.length_nil,Nat.reduceAdd,Nat.reduceSub,Array.replicate_succ,Array.replicate_zero,List.push_toArray,List.append_toArray,List.nil_append,List.cons_append]
 gi_wp2_with fail
 refine ⟨trivial,?_⟩
 gi_at_call 150
 refine (qnc 2 (some ⟨g,0,none⟩) At tr.length ct _).mono ?_
 rintro e w1 ⟨rfl,rfl⟩
 gi_wp2_with fail
 obtain ⟨W0,hW0⟩:∃ W0,((w.alloc (.cells #[.slice none 0 0] 53)).alloc (.cells #[.pointer (some ⟨g,0,none⟩)] 111)).alloc (.cells #[.slice At tr.length ct] 22)=W0:=⟨_,rfl⟩
 have hsz0:W0.heap.size=w.heap.size+3:=by rw [<- hW0];simp
 have hX0:Ext w W0:=by rw [<- hW0];exact (((Ext.refl w).alloc _).alloc _).alloc _
 have bo0:Boxed W0 w.heap.size 53 (.slice none 0 0):=by rw [<- hW0];exact ((Boxed.new w 53 _).alloc _).alloc _
 have bs0:Boxed W0 (w.heap.size+1) 111 (.pointer (some ⟨g,0,none⟩)):=by
  rw [<- hW0]
  have:=(Boxed.new (w.alloc (.cells #[.slice none 0 0] 53)) 111 (.pointer (some ⟨g,0,none⟩))).alloc (.cells #[.slice At tr.length ct] 22)
  rwa [World.size_alloc] at this
 have bt0:Boxed W0 (w.heap.size+2) 22 (.slice At tr.length ct):=by
  rw [<- hW0]
  have:=Boxed.new ((w.alloc (.cells #[.slice none 0 0] 53)).alloc (.cells #[.pointer (some ⟨g,0,none⟩)] 111)) 22 (.slice At tr.length ct)
  rwa [World.size_alloc,World.size_alloc] at this
 rw [hW0]
 clear hW0
 obtain ⟨Z,hZ⟩:∃ Z:Nat->Prop,Z=fun q=>(S q∧q<w.heap.size)∨q=w.heap.size+1∨q=w.heap.size+2:=⟨_,rfl⟩
 have hS0:qav Z W0 g s:=(HS.out.mono (S':=Z) fun q h1 h2=>by rw [hZ];exact .inl ⟨h2,h1⟩).bel hX0
 have hT0:qaa Z W0 tr [.slice At tr.length ct]:=qaa.good.bel (qaa.good.mono HT.out (S':=Z) fun q h1 h2=>by rw [hZ];exact .inl ⟨h2,h1⟩) hX0
 refine qmn (by omega) (gf:=220) (lb:=#[.pointer (some ⟨w.heap.size+1,0,none⟩),.pointer (some ⟨w.heap.size+2,0,none⟩)]) rfl (enters_of Tryz.func220 (by kernel_rfl) rfl)
  (ql6 (3-1) (by omega) (fun b=>b=w.heap.size) Z s hok g tr _ (w.heap.size+1) (w.heap.size+2) W0 (fun k hk=>by
   rw [hZ] at hk
   rcases hk with ⟨_,h⟩ | h | h <;> constructor <;> omega) (fun k hk=>by omega) hS0 hT0 (by rw [hZ];exact .inr (.inl rfl)) (by rw [hZ];exact .inr (.inr rfl)) bs0.cell bt0.cell htr)
  (fun _=>rfl) kc_t (fun W l o o' h1 h2 h3=>kc_b W l o o' h1 h2 h3)
  (fun pre W=>Bt (fun b=>b=w.heap.size) W0 W∧pre.length<=tr.length+1∧∃ vo,Boxed W w.heap.size 53 vo∧qab qac 1 3 W0.heap.size (fun _=>False) W (lastL s tr pre.length) vo) (fun _ _ _=>False) ?own (fun _ _ _ _ _ hs _ _=>hs)
  ⟨Bt.refl _ _,by simp,_,bo0,qab.nil ..⟩
  (fun pre x a' W=>walkG s tr W0.heap.size pre x W∧a'={ tmps:=#[.pointer (some ⟨g,0,none⟩),.slice At tr.length ct,undef,undef,.slice none 0 0,.pointer (some ⟨w.heap.size,0,none⟩),undef,x.2,.pointer (some ⟨g,0,none⟩),.slice At tr.length ct,.func (.func 220) #[] #[.pointer (some ⟨w.heap.size+1,0,none⟩),.pointer (some ⟨w.heap.size+2,0,none⟩)],.int .i64 (x.1:Int),x.2,undef,undef],defers:=[] })
  (fun pre x a' _ X Y row hs hg hr=>⟨⟨hs.1.1,hs.1.2.1,ql0 () X Y row hs.1.2.2 hg hr⟩,hs.2⟩)
  ?assign ?body ?done ?stop
 case own =>
  rintro pre X Y r ⟨h1,h0,vo,h2,h3⟩ hg hr
  have hlow:∀ q,q<X.heap.size->q<W0.heap.size->Y.heap[q]? = X.heap[q]?:=fun q h4 h5=>hg.block q h4 fun e=>by have:=(hr q e.symm).1;omega
  exact ⟨⟨hg.os.trans h1.os,hg.tape.trans h1.tape,hg.output.trans h1.output,Nat.le_trans h1.size hg.size,fun k hk hz=>(hlow k (Nat.lt_of_lt_of_le hk h1.size) hk).trans (h1.block k hk hz)⟩,h0,vo,(hlow _ h2.lt (by omega)).trans h2,ql0 () X Y r h3 hg hr⟩
 case assign =>
  rintro l2 pre ⟨xi,xv⟩ W Kc' hI hG hK
  unfold qh5
  simp only
  gi_wp2
  exact hK _ _ (KeepsFrom.refl _ _) ⟨Nat.le_refl _,fun _ _ h _ _=>h⟩ hI ⟨hG,rfl⟩
 case body =>
  rintro l2 pre ⟨xi,xv⟩ a' W hl2 _ ⟨hb,hl,vo,q,ho⟩ ⟨⟨hx1,hx2,hx3⟩,rfl⟩
  simp only at hx1 hx2 hx3
  obtain ⟨A3,c3,rfl,_,_⟩:=(hx3.sl qac.good (by decide)).val
  have y:=q.cell
  have y':=q.frozen
  have HQ:=Hd q
  have HX3:=Hd hx3
  have HO:=Hd ho
  clear q hx3 ho
  gi_wp2
  have hs:=Bt.set (Bt.refl (fun b=>b=w.heap.size) W) (p:=⟨w.heap.size,0,none⟩) (.inr rfl) (.slice A3 (qal s (tr.take pre.length)).length c3)
  refine ⟨(KeepsOthers.setCell _ _ _).from _,Kc.of_bt hs,hb.trans hs,by simp;omega,_,HQ.out.set _,?_⟩
  rw [List.length_append,List.length_cons,List.length_nil,lastL]
  exact HX3.out.bt qac.good hs fun b hb' hz=>⟨fun h=>h,fun e=>by
   obtain ⟨news,h1,_⟩:=HX3.out
   have:=(qb1 h1 b e).1
   have hz':b=w.heap.size:=hz
   omega⟩
 case done =>
  rintro D ys W hD hys ⟨hb,hl,vo,q,ho⟩ hD0
  rw [hys] at ho
  simp only [lastL,List.take_length] at ho
  obtain ⟨A3,c3,rfl,_,_⟩:=(ho.sl qac.good (by decide)).val
  have y:=q.cell
  have HO:=Hd ho
  have HD:=Hd hD0
  have HB:=Hd hb
  clear q ho hD0 hb
  gi_wp2
  have hXW:Ext w W:=Bt.new hX0 HB.out fun i _ hi=>by have hi':i=w.heap.size:=hi;omega
  have hM:Marks W0.heap.size [{ target:=.collected D,args:=#[] }] W:=(Marks.nil W0.heap.size W0).cons hD (by omega) HD.out (fun r h1 h2=>(HB.out.block r h1 (by
   rintro rfl
   rw [show W0.heap[w.heap.size]? = _ from bo0] at h2
   cases h2)).trans h2)
  refine Marks.leave (by simp) hM fun w3 hb3=>?_
  refine ⟨_,results_tmp rfl _ _ _,_,rfl,?_,?_⟩
  ·exact (HO.out.bt qac.good hb3 fun b _ hz=>⟨fun h=>h,HO.out.not_def hz.2⟩).base (by omega)
  ·exact Bt.new hXW hb3 fun i _ hi=>by have:=hi.1;omega
 case stop =>
  rintro D c pre W _ _ h _
  exact h.elim
end
section
open Go.ChangeShapes Go.WideShapes Go.ChangeAt
section
variable {H:Type} {enc:TypeId×Value->H} {W:World} {sp:Nat->Bool} {held:Bool}
theorem qsv:∀ (l:List Nat) (es:List (DataW H)),l.length=es.length->(∀ i,(h:i<l.length)->(h':i<es.length)->l[i]<=Rows.uptoBulk es[i])->l.sum<=Rows.uptoBulkAll es
 | [],[],_,_=>by simp [Rows.uptoBulkAll]
 | [],_ :: _,h,_=>by simp at h
 | _ :: _,[],h,_=>by simp at h
 | x :: l,e :: es,h,hi=>by
  rw [List.sum_cons,Rows.uptoBulkAll]
  have h0:=hi 0 (by simp) (by simp)
  have:=qsv l es (by simpa using h) fun i h1 h2=>hi (i+1) (Nat.succ_lt_succ h1) (Nat.succ_lt_succ h2)
  simp only [List.getElem_cons_zero] at h0
  omega
theorem qgu {α:Type} {R:Rdr α} {k:Nat} (hk:0<k) {t te:TypeId} {fuel:Nat} {cs:List Value} {x:DataW H×List MemPlace} (sz:α->Nat) (ht:Tryz.prog.underlying t=some (.slice te)) (hc:Tryz.prog.cellsOf te=k)
  (h:DataW.trod enc Tryz.prog W 0 sp held fuel t cs=some x) (hel:∀ n,n<fuel->∀ cs y,DataW.trod enc Tryz.prog W 0 sp held n te cs=some y->cs.length=k∧∃ a,R (fun _=>True) W a cs∧sz a<=Rows.uptoBulk y.1) :
  ∃ l v,cs=[v]∧RSl R k (fun _=>True) W l [v]∧(l.map sz).sum<=Rows.uptoBulk x.1:=by
 rcases DataW.trod_slice ht h with ⟨rfl,rfl⟩ | ⟨a,len,cap,elems,rest,n,rfl,rfl,rfl,_,h1,h2,h3,h4,_,_⟩
 ·exact ⟨[],_,rfl,⟨none,0,rfl,Nat.le_refl _,by decide,.inl rfl⟩,by simp⟩
 ·have hx:∀ i:Fin len,∃ a' ds,R (fun _=>True) W a' ds∧ds.length=k∧W.cells? 0 (a.add (i.1*k)) k=some ds∧sz a'<=Rows.uptoBulk (elems[i.1]'(by omega)).1:=fun i=>by
   have hi:=h4 i.1 i.2
   rw [hc,List.getElem?_eq_getElem (by omega)] at hi
   obtain ⟨ds,hd,hy⟩:=Option.bind_eq_some_iff.1 hi
   obtain ⟨hl,a',ha,hs⟩:=hel n (Nat.lt_succ_self n) ds _ hy
   exact ⟨a',ds,ha,hl,hd,hs⟩
  obtain ⟨f,hf⟩:=Classical.axiomOfChoice hx
  have hlen:(List.ofFn f).length=len:=List.length_ofFn
  have hget:∀ i,(h:i<len)->(List.ofFn f)[i]'(by rw [hlen];exact h)=f ⟨i,h⟩:=fun i h=>by simp
  refine ⟨List.ofFn f,_,rfl,⟨some a,cap,by rw [hlen],by rw [hlen];exact h1,by unfold maxLen at h2;omega,?_⟩,?_⟩
  ·by_cases h0:len=0
   ·left
    exact List.length_eq_zero_iff.1 (by rw [hlen];exact h0)
   ·right
    obtain ⟨b,off,spot⟩:=a
    obtain ⟨ds,_,hl0,hc0,_⟩:=hf ⟨0,by omega⟩
    obtain ⟨_,_,hcell0⟩:=World.cells?_some hc0
    have g0:=hcell0 0 hk
    rw [List.getElem?_eq_getElem (by omega)] at g0
    have hspot:spot=none:=by simpa [Addr.add] using World.cell?_spot g0
    subst hspot
    refine ⟨b,off,rfl,World.block_lt_of_cell? W _ (by simpa [Addr.add] using g0),trivial,qcn.of_get fun i hi=>?_⟩
    rw [hlen] at hi
    obtain ⟨ds,hr,hl,hcs,_⟩:=hf ⟨i,hi⟩
    obtain ⟨_,_,hcell⟩:=World.cells?_some hcs
    refine ⟨ds,hl,by rw [hget i hi];exact hr,fun j u hj=>?_⟩
    have hjk:j<k:=by rw [<- hl];exact (List.getElem?_eq_some_iff.1 hj).1
    have:=hcell j hjk
    rw [hj] at this
    rw [Addr.add_lit,Addr.add_lit] at this
    exact this
  ·have hb:=qsv ((List.ofFn f).map sz) (elems.map (·.1)) (by simp [h3]) fun i h h'=>by
    have hi:i<len:=by simpa using h
    obtain ⟨_,_,_,_,hs⟩:=hf ⟨i,hi⟩
    simpa using hs
   simp only [Rows.uptoBulk]
   omega
theorem qfk {n:Int} (h:(Lit.int .i64 n).wf=true):I64 n:=by
 simp only [Lit.wf,Bool.and_eq_true,decide_eq_true_eq] at h
 have h1:IntKind.i64.min = -9223372036854775808:=by decide
 have h2:IntKind.i64.max=9223372036854775807:=by decide
 rw [h1,h2] at h
 unfold I64
 omega
theorem list2 {α:Type}:∀ {l:List α},l.length=2->∃ a b,l=[a,b]
 | [a,b],_=>⟨a,b,rfl⟩
theorem qh1 {α:Type}:∀ {l:List α},l.length=3->∃ a b c,l=[a,b,c]
 | [a,b,c],_=>⟨a,b,c,rfl⟩
theorem k3:Tryz.prog.cellsOf 3=1:=by kernel_rfl
theorem k59:Tryz.prog.cellsOf 59=1:=by kernel_rfl
theorem k22:Tryz.prog.cellsOf 22=1:=by kernel_rfl
theorem k23:Tryz.prog.cellsOf 23=1:=by kernel_rfl
theorem k159:Tryz.prog.cellsOf 159=3:=by kernel_rfl
theorem k61:Tryz.prog.cellsOf 61=2:=by kernel_rfl
theorem k88:Tryz.prog.cellsOf 88=3:=by kernel_rfl
theorem k25:Tryz.prog.cellsOf 25=3:=by kernel_rfl
theorem qoa:∀ l:List Tm,(l.map Tm.size).sum=Tm.sizes l
 | []=>by rw [Tm.sizes];rfl
 | t :: ts=>by rw [Tm.sizes,List.map_cons,List.sum_cons,qoa ts]
theorem open_tm:∀ (fuel:Nat) (cs:List Value) (x:DataW H×List MemPlace),DataW.trod enc Tryz.prog W 0 sp held fuel 159 cs=some x->cs.length=3∧∃ t:Tm,RTm (fun _=>True) W t cs∧t.size<=Rows.uptoBulk x.1:=by
 intro fuel
 induction fuel using Nat.strongRecOn with
 | _ fuel ih =>
 intro cs x h
 obtain ⟨xs,n,rfl,rfl,hl,hlen,hf⟩:=DataW.trod_struct Tryz.underlying159 h
 have hl3:cs.length=3:=by rw [hl,k159]
 obtain ⟨c0,c1,c2,rfl⟩:=qh1 hl3
 obtain ⟨y0,y1,y2,rfl⟩:=qh1 (show xs.length=3 from hlen)
 clear hl hlen hl3
 have g0:DataW.trod enc Tryz.prog W 0 sp held n 3 (([c0,c1,c2].drop 0).take (Tryz.prog.cellsOf 3))=some y0:=hf 0 _ rfl
 rw [k3] at g0
 have g1:DataW.trod enc Tryz.prog W 0 sp held n 3 (([c0,c1,c2].drop 1).take (Tryz.prog.cellsOf 3))=some y1:=hf 1 _ rfl
 rw [k3] at g1
 have g2:DataW.trod enc Tryz.prog W 0 sp held n 59 (([c0,c1,c2].drop 2).take (Tryz.prog.cellsOf 59))=some y2:=hf 2 _ rfl
 rw [k59] at g2
 obtain ⟨n0,e0,_,w0⟩:=DataW.trod_int Tryz.underlying3 g0
 obtain ⟨n1,e1,_,w1⟩:=DataW.trod_int Tryz.underlying3 g1
 obtain ⟨l,v,e2,hr,hs⟩:=qgu (R:=RTm) (k:=3) (by decide) Tm.size Tryz.underlying59 k159 g2 (fun m hm cs y hy=>ih m (by omega) cs y hy)
 have f0:c0 = .int .i64 n0:=by injection e0
 have f1:c1 = .int .i64 n1:=by injection e1
 have f2:c2=v:=by injection e2
 subst f0 f1 f2
 refine ⟨rfl,.mk n0 n1 l,(qaz ..).2 ⟨qfk w0,qfk w1,_,rfl,hr⟩,?_⟩
 rw [qoa] at hs
 rw [Tm.size]
 simp only [List.map_cons,List.map_nil,Rows.uptoBulk,Rows.uptoBulkAll]
 omega
theorem open_lb (fuel:Nat) (cs:List Value) (x:DataW H×List MemPlace) (h:DataW.trod enc Tryz.prog W 0 sp held fuel 61 cs=some x):cs.length=2∧∃ a:Lb,RLb (fun _=>True) W a cs∧a.size<=Rows.uptoBulk x.1:=by
 obtain ⟨xs,n,rfl,rfl,hl,hlen,hf⟩:=DataW.trod_struct Tryz.underlying61 h
 have hl3:cs.length=2:=by rw [hl,k61]
 obtain ⟨c0,c1,rfl⟩:=list2 hl3
 obtain ⟨y0,y1,rfl⟩:=list2 (show xs.length=2 from hlen)
 clear hl hlen hl3
 have g0:DataW.trod enc Tryz.prog W 0 sp held n 3 (([c0,c1].drop 0).take (Tryz.prog.cellsOf 3))=some y0:=hf 0 _ rfl
 rw [k3] at g0
 have g1:DataW.trod enc Tryz.prog W 0 sp held n 59 (([c0,c1].drop 1).take (Tryz.prog.cellsOf 59))=some y1:=hf 1 _ rfl
 rw [k59] at g1
 obtain ⟨n0,e0,_,w0⟩:=DataW.trod_int Tryz.underlying3 g0
 obtain ⟨l,v,e2,hr,hs⟩:=qgu (R:=RTm) (k:=3) (by decide) Tm.size Tryz.underlying59 k159 g1 (fun m _ cs y hy=>open_tm m cs y hy)
 have f0:c0 = .int .i64 n0:=by injection e0
 have f2:c1=v:=by injection e2
 subst f0 f2
 refine ⟨rfl,⟨n0,l⟩,⟨qfk w0,_,rfl,hr⟩,?_⟩
 rw [qoa] at hs
 simp only [List.map_cons,List.map_nil,Rows.uptoBulk,Rows.uptoBulkAll]
 show Tm.sizes l<=_
 omega
theorem open_ed (fuel:Nat) (cs:List Value) (x:DataW H×List MemPlace) (h:DataW.trod enc Tryz.prog W 0 sp held fuel 88 cs=some x):cs.length=3∧∃ a:Ed,REd (fun _=>True) W a cs∧1<=Rows.uptoBulk x.1:=by
 obtain ⟨xs,n,rfl,rfl,hl,hlen,hf⟩:=DataW.trod_struct Tryz.underlying88 h
 have hl3:cs.length=3:=by rw [hl,k88]
 obtain ⟨c0,c1,c2,rfl⟩:=qh1 hl3
 obtain ⟨y0,y1,y2,rfl⟩:=qh1 (show xs.length=3 from hlen)
 clear hl hlen hl3
 have g0:DataW.trod enc Tryz.prog W 0 sp held n 3 (([c0,c1,c2].drop 0).take (Tryz.prog.cellsOf 3))=some y0:=hf 0 _ rfl
 rw [k3] at g0
 have g1:DataW.trod enc Tryz.prog W 0 sp held n 3 (([c0,c1,c2].drop 1).take (Tryz.prog.cellsOf 3))=some y1:=hf 1 _ rfl
 rw [k3] at g1
 have g2:DataW.trod enc Tryz.prog W 0 sp held n 3 (([c0,c1,c2].drop 2).take (Tryz.prog.cellsOf 3))=some y2:=hf 2 _ rfl
 rw [k3] at g2
 obtain ⟨n0,e0,_,w0⟩:=DataW.trod_int Tryz.underlying3 g0
 obtain ⟨n1,e1,_,w1⟩:=DataW.trod_int Tryz.underlying3 g1
 obtain ⟨n2,e2,_,w2⟩:=DataW.trod_int Tryz.underlying3 g2
 have f0:c0 = .int .i64 n0:=by injection e0
 have f1:c1 = .int .i64 n1:=by injection e1
 have f2:c2 = .int .i64 n2:=by injection e2
 subst f0 f1 f2
 refine ⟨rfl,⟨n0,n1,n2⟩,⟨qfk w0,qfk w1,qfk w2,rfl⟩,?_⟩
 simp only [Rows.uptoBulk]
 omega
theorem qoc:∀ (l:List Nat) (n:Nat),n∈l->n<=l.sum
 | x :: l,n,h=>by
  rw [List.sum_cons]
  rcases List.mem_cons.1 h with rfl | h
  ·omega
  ·have:=qoc l n h;omega
theorem open_sy (fuel:Nat) (cs:List Value) (x:DataW H×List MemPlace) (h:DataW.trod enc Tryz.prog W 0 sp held fuel 25 cs=some x):cs.length=3∧∃ s:Sy,RSy (fun _=>True) W s cs∧(∀ a∈s.ls,a.size<=Rows.uptoBulk x.1):=by
 obtain ⟨xs,n,rfl,rfl,hl,hlen,hf⟩:=DataW.trod_struct Tryz.underlying25 h
 have hl3:cs.length=3:=by rw [hl,k25]
 obtain ⟨c0,c1,c2,rfl⟩:=qh1 hl3
 obtain ⟨y0,y1,y2,rfl⟩:=qh1 (show xs.length=3 from hlen)
 clear hl hlen hl3
 have g0:DataW.trod enc Tryz.prog W 0 sp held n 3 (([c0,c1,c2].drop 0).take (Tryz.prog.cellsOf 3))=some y0:=hf 0 _ rfl
 rw [k3] at g0
 have g1:DataW.trod enc Tryz.prog W 0 sp held n 22 (([c0,c1,c2].drop 1).take (Tryz.prog.cellsOf 22))=some y1:=hf 1 _ rfl
 rw [k22] at g1
 have g2:DataW.trod enc Tryz.prog W 0 sp held n 23 (([c0,c1,c2].drop 2).take (Tryz.prog.cellsOf 23))=some y2:=hf 2 _ rfl
 rw [k23] at g2
 obtain ⟨n0,e0,_,w0⟩:=DataW.trod_int Tryz.underlying3 g0
 obtain ⟨ls,v,e1,hr1,hs1⟩:=qgu (R:=RLb) (k:=2) (by decide) Lb.size Tryz.underlying22 k61 g1 (fun m _ cs y hy=>open_lb m cs y hy)
 obtain ⟨es,u,e2,hr2,hs2⟩:=qgu (R:=REd) (k:=3) (by decide) (fun _=>1) Tryz.underlying23 k88 g2 (fun m _ cs y hy=>open_ed m cs y hy)
 have f0:c0 = .int .i64 n0:=by injection e0
 have f1:c1=v:=by injection e1
 have f2:c2=u:=by injection e2
 subst f0 f1 f2
 refine ⟨rfl,⟨n0,ls,es⟩,⟨qfk w0,_,_,rfl,hr1,hr2⟩,fun a ha=>?_⟩
 have h9:a.size<=(ls.map Lb.size).sum:=qoc _ _ (List.mem_map_of_mem (f:=Lb.size) (show a∈ls from ha))
 simp only [List.map_cons,List.map_nil,Rows.uptoBulk,Rows.uptoBulkAll]
 omega
end
end
section
open Go.ChangeShapes Go.WideShapes Go.ChangeAt
theorem own:ownKnob Tryz.prog.godebug=none:=by kernel_rfl
theorem laid:laidOutB Tryz.prog=true:=by kernel_rfl
theorem stays {t:TypeId} (hrec:Tryz.prog.readableRec t=true) (hrow:t<Tryz.prog.types.size) {H:Type} {enc:TypeId×Value->H} {W W':World} {v:Value} {d:DataW H} {ps:List MemPlace} (h:DataW.Trod enc Tryz.prog W 0 (fun _=>true) true t v d ps) (hx:Ext W W') (hlt:∀ p∈ps,p.block<W.heap.size) (sp:Nat->Bool) (hs:∀ p∈ps,sp p.block=true):DataW.Trod enc Tryz.prog W' 0 sp true t v d ps:=by
 obtain ⟨n,hn⟩:=h
 exact ⟨n,DataW.trod_stays (kids_book laid hrec) (book_sized hrec) (fun h=>by cases h) ⟨hrow,book_self t⟩ hn (fun p hp=>Below.same hx (hlt p hp)) hs⟩
theorem post_ext {H:Type} {enc:TypeId×Value->H} {P:Program} {f:Func} {s:ChangeSpec} {apart fresh handsOn again:Bool} {W W':World} {args:Array Value} {v:Value} {ds gs:List (DataW H)} {before pa pv:List MemPlace}
  (hW:DataW.Whole enc P f.params.toList s.vars apart W args.toList ds gs before) (hX:Ext W W')
  (hres:∀ (b:Nat) (sp:Nat->Bool) (hd:Bool),DataW.TrodAll enc P W' b sp hd f.resultTypes.toList (v.resultList f.resultTypes.size) (s.fn H (ds++gs)).results [])
  (hargs:∀ sp:Nat->Bool,(∀ p∈before,sp p.block=true)->DataW.TrodAll enc P W' 0 sp true f.params.toList args.toList (s.fn H (ds++gs)).args pa)
  (hvars:∀ sp:Nat->Bool,(∀ p∈before,sp p.block=true)->DataW.TrodVars enc P W' sp s.vars (s.fn H (ds++gs)).vars pv) (hps:before=pa++pv)
  (hok:∀ (j:Nat) (t:TypeId) (r:Value),f.resultTypes[j]? = some t->(v.resultList f.resultTypes.size)[j]? = some r->Value.okWide P W' .any 0 t r):s.post enc P f apart fresh handsOn again W args v W':=by
 have hlt:=hW.lt
 have hold:∀ p∈before,(fun b=>decide (b<W.heap.size)) p.block=true:=fun p hp=>decide_eq_true (hlt p hp)
 refine ⟨ds,gs,before,[],pa,pv,hW,hres _ _ _,hargs _ hold,hvars _ hold,Below.frame hX _,fun _=>⟨hok,_,_,([]++pa)++pv,⟨[]++pa,pv,trodAll_append (hargs _ fun _ _=>rfl) (hres _ _ _),hvars _ fun _ _=>rfl,rfl,fun b off hp=>?_,fun ha=>?_⟩,fun p hp _=>?_⟩⟩
 ·have hb:MemPlace.cell b off∈before:=by rw [hps];simpa using hp
  obtain ⟨_,_,_,_,_,hz,_⟩:=hW
  exact (Below.frozen hX (p:=⟨b,off,none⟩) (hlt _ hb)).trans (hz b off hb)
 ·obtain ⟨_,_,_,_,_,_,hn⟩:=hW
  have:=hn ha
  rw [hps] at this
  simpa using this
 ·rw [hps]
  simpa using hp
section
variable {H:Type} {enc:TypeId×Value->H} {W:World} {sp:Nat->Bool} {held:Bool}
theorem k40:Tryz.prog.cellsOf 40=2:=by kernel_rfl
theorem k22c:Tryz.prog.cellsOf 22=1:=by kernel_rfl
theorem open_lb1 (fuel:Nat) (cs:List Value) (x:DataW H×List MemPlace) (h:DataW.trod enc Tryz.prog W 0 sp held fuel 61 cs=some x):cs.length=2∧∃ a:Lb,RLb (fun _=>True) W a cs∧1<=Rows.uptoBulk x.1:=by
 obtain ⟨h1,a,h2,_⟩:=open_lb fuel cs x h
 obtain ⟨xs,n,rfl,rfl,hl,hlen,hf⟩:=DataW.trod_struct Tryz.underlying61 h
 refine ⟨h1,a,h2,?_⟩
 simp only [Rows.uptoBulk]
 omega
theorem qn2 (fuel:Nat) (cs:List Value) (x:DataW H×List MemPlace) (h:DataW.trod enc Tryz.prog W 0 sp held fuel 22 cs=some x):cs.length=1∧∃ l:List Lb,qaa (fun _=>True) W l cs∧l.length<=Rows.uptoBulk x.1:=by
 obtain ⟨l,v,rfl,hr,hs⟩:=qgu (R:=RLb) (k:=2) (by decide) (fun _=>1) Tryz.underlying22 k61 h (fun m _ cs y hy=>open_lb1 m cs y hy)
 refine ⟨rfl,l,hr,?_⟩
 have e:∀ l:List Lb,(l.map fun _=>1).sum=l.length:=by
  intro l
  induction l with
  | nil=>rfl
  | cons x l ih=>rw [List.map_cons,List.sum_cons,ih,List.length_cons,Nat.add_comm]
 rw [e] at hs
 exact hs
theorem open_te (fuel:Nat) (cs:List Value) (x:DataW H×List MemPlace) (h:DataW.trod enc Tryz.prog W 0 sp held fuel 40 cs=some x):cs.length=2∧∃ t:Te,RTe (fun _=>True) W t cs∧1<=Rows.uptoBulk x.1:=by
 obtain ⟨xs,n,rfl,rfl,hl,hlen,hf⟩:=DataW.trod_struct Tryz.underlying40 h
 have hl3:cs.length=2:=by rw [hl,k40]
 obtain ⟨c0,c1,rfl⟩:=list2 hl3
 obtain ⟨y0,y1,rfl⟩:=list2 (show xs.length=2 from hlen)
 clear hl hlen hl3
 have g0:DataW.trod enc Tryz.prog W 0 sp held n 22 (([c0,c1].drop 0).take (Tryz.prog.cellsOf 22))=some y0:=hf 0 _ rfl
 rw [k22c] at g0
 have g1:DataW.trod enc Tryz.prog W 0 sp held n 22 (([c0,c1].drop 1).take (Tryz.prog.cellsOf 22))=some y1:=hf 1 _ rfl
 rw [k22c] at g1
 obtain ⟨_,l,hr,_⟩:=qn2 n _ _ g0
 obtain ⟨_,m,hr2,_⟩:=qn2 n _ _ g1
 refine ⟨rfl,⟨l,m⟩,⟨c0,c1,rfl,hr,hr2⟩,?_⟩
 simp only [Rows.uptoBulk]
 omega
theorem open_tes (fuel:Nat) (cs:List Value) (x:DataW H×List MemPlace) (h:DataW.trod enc Tryz.prog W 0 sp held fuel 34 cs=some x):∃ l v,cs=[v]∧RSl RTe 2 (fun _=>True) W l [v]:=by
 obtain ⟨l,v,rfl,hr,_⟩:=qgu (R:=RTe) (k:=2) (by decide) (fun _=>1) Tryz.underlying34 k40 h (fun m _ cs y hy=>open_te m cs y hy)
 exact ⟨l,v,rfl,hr⟩
end
end
end Go.Proofs.YtegenalcheooeaaGreat
