/- Of the proof of a law of the suites: PRefB, LConcat. -/
import Derived.Test.YtegenalcheooeaaGreatAF04
import Derived.Test.YtegenalcheooeaaGreatAF05
import Derived.Test.YtegenalcheooeaaGreatB10
import Derived.Test.YtegenalcheooeaaGreatB14
import Derived.Test.YtegenalcheooeaaGreatB18
import Derived.Test.YtegenalcheooeaaGreatB19
import Derived.Lib.AppendZeros
set_option linter.unusedSectionVars false
set_option linter.unusedSimpArgs false
set_option linter.unusedVariables false
namespace Go.Proofs.YtegenalcheooeaaGreat
open Go.RowKit
attribute [local go_sem] cell?_exto
set_option maxHeartbeats 16000000
set_option maxRecDepth 100000
section

theorem one_marks {n st:Nat} (h:st<n):(List.replicate n false).set st true=marksOf n [(st:Int)]:=by
 rw[<- qkk,qjk];rfl
theorem acX_iff (s:Sy) (bs:List Bool) (y:Int):y∈acX s bs s.es.length↔∃j:Fin s.es.length,acB s bs s.es[j]=true/\s.es[j].l=y:=by
 rw[acX,List.take_length,List.mem_map]
 constructor
 .rintro ⟨e,g,rfl⟩;obtain⟨c,f⟩:=List.mem_filter.1 g;obtain⟨i,hi,rfl⟩:=List.getElem_of_mem c;exact⟨⟨i,hi⟩,f,rfl⟩
 rintro⟨j,h,rfl⟩;exact⟨s.es[j],List.mem_filter.2 ⟨List.getElem_mem _,h⟩,rfl⟩
theorem qvy {s:Sy} (r:qah s) {n c:Nat} (hn:s.n=(n:Int)) (z:c<n) {k:Nat} (C:k<s.ls.length) :
  qdf (accM s n c) k=true↔qat s.ls[k].g=true/\∃y∈qa4 s [(c:Int)],∃j∈qay s.es y,s.es[j].l=(k:Int):=by
 have D:=qqi r [(c:Int)] λy hy=>by rw[List.mem_singleton.1 hy];omega
 rw[qd6 (by rw[qwj];exact C)];unfold accM;rw[qfn,decide_eq_true_eq,acX_iff,one_marks z,qqw s n hn _ λy hy=>by rw[List.mem_singleton.1 hy];omega]
 have o:∀j:Fin s.es.length,s.es[j].l=(k:Int)->(acB s (marksOf n (qa4 s [(c:Int)])) s.es[j]=true↔s.es[j].f∈qa4 s [(c:Int)]/\qat s.ls[k].g=true):=λj u=>by
  obtain⟨A,B,_⟩:=qfs r j;obtain⟨v,w⟩:∃v:Nat,s.es[j].f=(v:Int):=⟨s.es[j].f.toNat,by omega⟩
  have hf:v<(marksOf n (qa4 s [(c:Int)])).length:=by rw[qcg];omega
  rw[acB,w,u,Int.toNat_natCast,Int.toNat_natCast,qd6 hf,qfn,List.getElem?_eq_getElem C];simp only[Bool.and_eq_true,decide_eq_true_eq]
 constructor
 .rintro ⟨j,h,q⟩;obtain⟨A,B⟩:=(o j q).1 h;exact⟨B,_,A,j,(qhp _ _ _).2 rfl,q⟩
 rintro⟨E,y,hy,j,u,q⟩;rw[qhp]at u;exact⟨j,(o j q).2 ⟨by rw[u];exact hy,E⟩,q⟩
theorem qt3 (l:List Lb) (x:Lb):hasB l x=true↔x∈l:=by
 rw[hasB,List.any_eq_true]
 constructor
 .rintro ⟨y,hy,h⟩;rw[qa8,decide_eq_true_eq,qbe.iff]at h;rw[<- h];exact hy
 exact λh=>⟨x,h,by rw[qa8,decide_eq_true_eq];exact qbe.refl x⟩
theorem ql9 {s:Sy} (g:qah s) {n v:Nat} (hn:s.n=(n:Int)) (o:v<n) {l:List Lb} (w:Inc l):qf6 s n v l=qe1 (qbo s (v:Int)) l:=by
 rw[Bool.eq_iff_iff,qkt w,qf6,qgj,List.any_eq_true]
 constructor
 .rintro ⟨k,f,h⟩;have c:=List.mem_range.1 f;rw[List.getElem?_eq_getElem c,Bool.and_eq_true]at h;obtain⟨r,q⟩:=(qvy g hn o c).1 h.1;exact⟨s.ls[k],(qmv s _ _).2 ⟨k,c,rfl,r,q⟩,(qt3 _ _).1 h.2⟩
 rintro⟨x,q,u⟩;obtain⟨k,f,rfl,r,q⟩:=(qmv s _ _).1 q;refine⟨k,List.mem_range.2 f,?_⟩;rw[List.getElem?_eq_getElem f,Bool.and_eq_true];exact⟨(qvy g hn o f).2 ⟨r,q⟩,(qt3 _ _).2 u⟩
theorem qze {s:Sy} (g:qah s) {n:Nat} (hn:s.n=(n:Int)) {L:List Int} (r:∀y∈L,0<=y/\y<s.n) {l:List Lb} (o:Inc l):qdz s n (marksOf n L) l n=qcl s L l:=by
 rw[Bool.eq_iff_iff,qcl,qdz,List.any_eq_true,List.any_eq_true]
 constructor
 .rintro ⟨k,c,h⟩;have f:=List.mem_range.1 c;rw[qd6 (by rw[qcg];exact f),qfn,Bool.and_eq_true,decide_eq_true_eq,ql9 g hn f o]at h;exact⟨(k:Int),h.1,h.2⟩
 rintro⟨t,q,h⟩;have:=r t q;obtain⟨k,rfl⟩:∃k:Nat,t=(k:Int):=⟨t.toNat,by omega⟩
 have c:k<n:=by omega
 refine⟨k,List.mem_range.2 c,?_⟩;rw[qd6 (by rw[qcg];exact c),qfn,Bool.and_eq_true,decide_eq_true_eq,ql9 g hn c o];exact⟨q,h⟩
theorem set_inc {l:List Lb} (h:qbt l=true):Inc l:=by
 rw[qbt,Bool.and_eq_true,Bool.and_eq_true]at h;exact(qmj l).1 h.1.1
theorem qvt {tr:List Lb} (h:qbk tr=true):∀x∈tr,qat x.g=true:=λx c=>by
 rw[qbk,Bool.and_eq_true,List.all_eq_true]at h;have:=h.2 x c;rw[okV,Bool.and_eq_true]at this;exact this.2
theorem qqy {s:Sy} (c:qah s) {n:Nat} (hn:s.n=(n:Int)) {tr l:List Lb} (g:qbk tr=true) (f:Inc l):qdz s n (qau s n tr) l n=qcl s (qao s tr) l:=by
 rw[qk0 c hn tr (qvt g)];exact qze c hn (qn6 c tr) f
end
section
/- slices.Grow and Concat at labels;brief: walked. -/
open Go.Shelf Go.Lib
def GrowPost (T:Nat->Prop) (w:World) (e:Ending) (w':World):Prop:=∃A c,e = .returned (.slice A 0 c)/\qab RLb 2 61 w.heap.size T w' [] (.slice A 0 c)/\Ext w w'
theorem grow_c (T:Nat->Prop) (n:Nat) (hn:n<=100000000) (w:World):Calls Tryz.prog 116 #[.slice none 0 0,.int .i64 (n:Int)] w (GrowPost T w):=by
 obtain⟨A,o,g⟩:=Option.map_eq_some_iff.1 qix;simp only[Prod.mk.injEq]at g;obtain⟨q,r,u⟩:=g
 by_cases y:n=0
 .subst y
  go_enter Tryz.func116,Tryz.ntmps116
  go_wp2_with fail
  go_ret;exact⟨none,0,rfl,qab.nil ..,Ext.refl _⟩
 have hr:=run_append_nil_zeros (P:=Tryz.prog) w 22 3 22 61 A (.agg #[.int .i64 0,.slice none 0 0]) .i64 .i64 Tryz.underlying22 Tryz.underlying3 o q n (by omega) (by rw[r];decide) (by omega) (by rw[u];omega);have f:=grownCap_ge w n 0 61;have c:=grownCap_le_maxLen w n 0 61 (by unfold maxLen;omega)
 generalize grownCap w n 0 61=cap at hr f c
 have z:(n:Int)-0=n:=by omega
 have v:0<n:=by omega
 go_enter Tryz.func116,Tryz.ntmps116
 go_wp2_with (at_builtin;refine Lib.wpList_append_run _ rfl _ _ _ _ rfl _ _ rfl rfl _ _ hr ?_)
 go_ret;refine⟨some ⟨w.heap.size,0,none⟩,cap,rfl,⟨[],?_,rfl⟩,((Ext.refl w).alloc _).drew⟩;exact World.ownsRow.drew (World.ownsRow_made w _ cap (Nat.le_refl _) c (by simp[Builtin.zeroCells];omega))
theorem qmw {α:Type} {xs:List (List α)} {k:Nat} (h:k<xs.length):(xs.take (k+1)).flatten=(xs.take k).flatten++xs[k]:=by
 rw[List.take_succ_eq_append_getElem h,List.flatten_append,List.flatten_cons,List.flatten_nil,List.append_nil]
theorem flat_le {α:Type}:∀(xs:List (List α)) (k:Nat),(xs.take k).flatten.length<=xs.flatten.length
 | [],k=>by simp
 | x :: xs,0=>by simp
 | x :: xs,k+1=>by have:=flat_le xs k;simp only[List.take_succ_cons,List.flatten_cons,List.length_append];omega
theorem lit_x {α:Type} {R:Rdr α} {k:Nat} {S:Nat->Prop} {W:World} {e:TypeId} {xs:List α} {cs:List Value} (c:Flat R k S (W.alloc (.cells cs.toArray e)) xs cs) (hn:xs.length<=100000) :
  qei R k S (W.alloc (.cells cs.toArray e)) xs (.slice (some ⟨W.heap.size,0,none⟩) xs.length xs.length) :=
 ⟨_,_,rfl,Nat.le_refl _,by omega,.inr ⟨W.heap.size,0,rfl,by simp,Flat.row c λi x h=>by have:=qe7 W cs.toArray e i x (by simpa using h);rwa [Addr.add_lit]at this⟩⟩
def qys (S:Nat->Prop) (l:List Lb) (w:World) (e:Ending) (w':World):Prop:=∃A c,e = .returned (.slice A l.length c)/\qab RLb 2 61 w.heap.size (λq=>S q/\q<w.heap.size) w' l (.slice A l.length c)/\Ext w w'
theorem concat_c (S:Nat->Prop) (xs:List (List Lb)) (v:Value) (w:World) (hx:qei qaa 1 S w xs v) (aa:xs.flatten.length<=100000000):Calls Tryz.prog 55 #[v] w (qys S xs.flatten w):=by
 obtain⟨A,c,rfl,hc,al,_⟩:=id hx;have HX:=Hd hx;obtain⟨G,z⟩:=nm (xs.flatten);have B:=flat_le xs;rw[z]at aa ⊢;rw[z]at B;have L:=Hd B;have J:=Hd z;clear z B;clear hx
 go_enter Tryz.func55,Tryz.ntmps55
 go_wp2_with fail
 go_loopw [3,11] (λv3 D wr=>∃(k q:Nat),k<=xs.length/\D = .int .i64 k/\v3 = .int .i64 (q:Int)/\q<=G.length/\Hid (q=(xs.take k).flatten.length)/\wr=w) (λ_ D _=>xs.length-(intOf D).toNat)
 case atStart=>exact⟨0,0,Nat.zero_le _,rfl,rfl,Nat.zero_le _,(show 0=(xs.take 0).flatten.length by simp),rfl⟩
 obtain⟨k,q,hk,rfl,rfl,hq,hQ,rfl⟩:=hrel
 by_cases g:k<xs.length
 .obtain ⟨b,af,cs,rfl,hb,hl,hr,f⟩:=HX.out.get k g
  obtain⟨u,rfl⟩:∃u,cs=[u]:=by
   match cs,hl with
   | [u],_=>exact⟨u,rfl⟩
  have a0:=f.get 0 _;simp only[Nat.add_zero,Nat.mul_one]at a0;obtain⟨Au,cu,rfl,aj,Y⟩:=hr.val;have I:=L.out (k+1);rw[qmw g,List.length_append,<- hQ.out]at I
  have N:Hid (q+xs[k].length=(xs.take (k+1)).flatten.length):=by
   show _=_;rw[qmw g,List.length_append,<- hQ.out]
  obtain⟨m,hm⟩:=nm (xs[k].length);rw[hm]at a0 I N;clear hr hl f hQ hm
  go_wp2_with fail
  go_roundw
  case rel=>exact⟨k+1,q+m,by omega,by go_num,by go_num,I,N,trivial⟩
  simp[intOf];omega
 obtain⟨r,rfl⟩:∃r,r=wr:=⟨_,rfl⟩
 obtain rfl:q=G.length:=by
  have:=hQ.out
  rwa [List.take_of_length_le (by omega),J.out]at this
 have hg:=grow_c (λq=>S q/\q<r.heap.size) G.length (by omega) r;clear hQ hq
 go_wp2_with fail
 refine hg.mono ?_;rintro e w1 ⟨A1,c1,rfl,V,ai⟩;have ah:=Hd V;clear V hg
 go_wp2_with fail
 go_loopw [6,27] (λv6 D wq=>∃(k:Nat) (y:List Lb) (E:Option Addr) (F:Nat),k<=xs.length/\D = .int .i64 k/\v6 = .slice E y.length F/\Hid (y=(xs.take k).flatten)/\Ext r wq/\Hid (qab RLb 2 61 r.heap.size (λq=>S q/\q<r.heap.size) wq y (.slice E y.length F))) (λ_ D _=>xs.length-(intOf D).toNat)
 case atStart=>exact⟨0,[],A1,c1,Nat.zero_le _,rfl,rfl,(show[]=(xs.take 0).flatten by simp),ai,ah⟩
 obtain⟨k,y,E,F,hk,rfl,rfl,hY,T,U⟩:=hrel
 by_cases g:k<xs.length
 .obtain ⟨b,af,cs,rfl,hb,hl,ad,o⟩:=HX.out.get k g;have hr:=qaa.good.bel (qaa.good.mono ad λq hq h=>⟨h,hq⟩:qaa (λq=>S q/\q<r.heap.size) r xs[k] cs) T;have f:qfm wr b (af+k*1) cs:=o.move (T.block b hb)
  obtain⟨u,rfl⟩:∃u,cs=[u]:=by
   match cs,hl with
   | [u],_=>exact⟨u,rfl⟩
  have a0:=f.get 0 _;simp only[Nat.add_zero,Nat.mul_one]at a0;obtain⟨Au,cu,rfl,aj,Y⟩:=hr.val;have I:=L.out (k+1);rw[qmw g,List.length_append,<- hY.out]at I
  obtain⟨A2,c2,w2,C,ac,X⟩:=pushN RLb.good (by decide) r.heap.size 61 22 (.agg #[.int .i64 0,.slice none 0 0]) 32 Tryz.underlying22 qix rfl (by decide) (λq=>S q/\q<r.heap.size) _ y xs[k] (.slice E y.length F) _ U.out
   (qaa.good.mono hr λb _ h=>⟨h,λe=>by have:=(U.out.own_lt e).1;have:=h.2;omega⟩) T.size (by omega)
  have M:=Hd ac;have ab:∀q,(Value.slice E y.length F).ownBlock=some q->r.heap.size<=q:=λq e=>(U.out.own_lt e).1
  have ag:Hid (Ext r w2):=Bt.new T X λq _ h=>ab q h
  have O:Hid (y++xs[k]=(xs.take (k+1)).flatten):=by
   show _=_;rw[qmw g,hY.out]
  obtain⟨x,ae⟩:=nm (xs[k]);rw[ae]at a0 C M O;clear hr hl f ad o U ac X ab hY I ae
  go_wp2_with (at_builtin;refine wpList_append_run rfl _ _ _ rfl _ _ _ rfl rfl C ?_;clear C)
  go_roundw
  case rel=>exact⟨k+1,y++x,A2,c2,by omega,by go_num,by rw[List.length_append],O,ag.out,M⟩
  simp[intOf];omega
 have ak:y=G:=by
  have:=hY.out
  rwa [List.take_of_length_le (by omega),J.out]at this
 subst ak
 go_wp2_with fail
 go_ret;exact⟨E,F,rfl,U.out,T⟩
def qhd (t:Te):Bool:=decide (45<t.tr.length) || decide (70<t.mu.length) || !qfp (t.tr++t.mu)
def qj9 (ts:List Te):Bool:=decide (ts.length<=60) && !(ts.any qhd)
theorem flat2L {S:Nat->Prop} {W:World} {x y:List Lb} {u v:Value} (c:qaa S W x [u]) (hy:qaa S W y [v]):Flat qaa 1 S W [x,y] [u,v]:=⟨[u],[v],rfl,rfl,c,[v],[],rfl,rfl,hy,rfl⟩
theorem eg107:∀c w,(callFunc 107 c).run Tryz.prog w = .ok (.enter 107 c) w:=enters_of Tryz.func107 (by kernel_rfl) rfl
theorem brief1_c (t:Te) (cs:List Value) (w:World) (O:RTe (λ_=>True) w t cs):Calls Tryz.prog 107 #[.agg cs.toArray] w λe T=>e = .returned (.bool (qhd t))/\Ext w T:=by
 obtain⟨v,u,rfl,G,F⟩:=O;have r:∀W,Ext w W->qei qaa 1 (λ_=>True) (W.alloc (.cells #[v,u] 22)) [t.tr,t.mu] (.slice (some ⟨W.heap.size,0,none⟩) 2 2):=λW z=>lit_x (cs:=[v,u]) (e:=22) (flat2L (qaa.good.bel G (z.alloc _)) (qaa.good.bel F (z.alloc _))) (by simp)
 have f:=λ(D:t.tr.length<=45) (E:t.mu.length<=70) W (z:Ext w W)=>concat_c (λ_=>True) [t.tr,t.mu] _ _ (r W z) (by simp;omega)
 obtain⟨A,c,rfl,_,_⟩:=G.val;obtain⟨L,M,rfl,_,_⟩:=F.val;clear G F r
 by_cases D:45<t.tr.length
 .have y:Hid (qhd t=true):=by simp[qhd,D,Hid]
  clear f
  go_enter Tryz.func107,Tryz.ntmps107
  go_wp2_with fail
  go_ret;exact⟨by rw[y.out];rfl,bel⟩
 by_cases E:70<t.mu.length
 .have y:Hid (qhd t=true):=by simp[qhd,E,Hid]
  clear f
  go_enter Tryz.func107,Tryz.ntmps107
  go_wp2_with fail
  go_ret;exact⟨by rw[y.out];rfl,bel⟩
 have y:Hid (qhd t = !qfp (t.tr++t.mu)):=by
  show _=_;rw[qhd,decide_eq_false D,decide_eq_false E];rfl
 have f:=f (by omega) (by omega);have q:(t.tr++t.mu).length<=4000000:=by rw[List.length_append];omega
 have B:[t.tr,t.mu].flatten=t.tr++t.mu:=by simp
 rw[B]at f;obtain⟨C,o⟩:=nm (t.tr++t.mu);rw[o]at f q y;clear B o
 go_enter Tryz.func107,Tryz.ntmps107
 go_wp2_with fail
 have g:=f (w.alloc (.cells #[.slice A t.tr.length c,.slice L t.mu.length M] 40)) ((Ext.refl w).alloc _);rw[World.size_alloc]at g;refine g.mono ?_;rintro e J ⟨U,V,rfl,I,X⟩;have hs:=λW (z:Ext J W)=>qqa _ C _ W (qaa.good.bel (I.sl RLb.good (by decide)) z) q
 have N:Ext w J:=bel;clear f g I
 go_wp2_with fail
 refine(hs _ bel).mono ?_;rintro e w2 ⟨rfl,Y⟩
 go_wp2_with fail
 go_ret;refine⟨?_,bel⟩;show Ending.returned (.bool (decide (45<(t.tr.length:Int)) || decide (70<(t.mu.length:Int)) || !qfp C))=_;rw[y.out,decide_eq_false (by omega),decide_eq_false (by omega)];rfl
theorem brief_c (ts:List Te) (v:Value) (w:World) (o:RSl RTe 2 (λ_=>True) w ts [v]):Calls Tryz.prog 42 #[v] w λe u=>e = .returned (.bool (qj9 ts))/\Ext w u:=by
 have f:=λW (r:Ext w W)=>conPTe qhd (λ_=>True) W ts v ((RSl.good RTe.good).bel o r) 107 #[] eg107 (λx _ cs q _ hr=>brief1_c x cs q hr)
 obtain⟨A,c,rfl,_,_⟩:=o.val;clear o
 by_cases h:ts.length<=60
 .have g:Hid (qj9 ts = !(ts.any qhd)):=by simp[qj9,h,Hid]
  go_enter Tryz.func42,Tryz.ntmps42
  go_wp2_with fail
  refine(f _ bel).mono ?_;rintro e z ⟨rfl,y⟩
  go_wp2_with fail
  go_ret;exact⟨by rw[g.out];rfl,bel⟩
 have g:Hid (qj9 ts=false):=by simp[qj9,h,Hid]
 go_enter Tryz.func42,Tryz.ntmps42
 go_wp2_with fail
 go_ret;exact⟨by rw[g.out];rfl,bel⟩
end
end Go.Proofs.YtegenalcheooeaaGreat
