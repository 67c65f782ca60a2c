/- Of the proof of a law of the suites: Delete, Least, Cover, Mark, Covers1, VMap, LibITe, Fails. -/
import Derived.Test.YtegenalcheooeaaGreatB01
import Derived.Test.YtegenalcheooeaaGreatB02
import Derived.Test.YtegenalcheooeaaGreatB05
import Derived.Test.YtegenalcheooeaaGreatB07
import Derived.Test.YtegenalcheooeaaGreatB08
import Derived.Test.YtegenalcheooeaaGreatB09
set_option linter.unusedSectionVars false
set_option linter.unusedSimpArgs false
set_option linter.unusedVariables false
namespace Go.Proofs.YtegenalcheooeaaGreat
open Go.RowKit
attribute [local go_sem] cell?_exto
set_option maxHeartbeats 16000000
set_option maxRecDepth 100000
section

theorem qw1 {α:Type} (p:α->Bool):∀l:List α,qbd p l = -1->l.filter (λx=>!p x)=l
 | [],_=>rfl
 | x :: l,h=>by
  have ih:=qw1 p l;rw[qbd]at h
  split at h
  .cases h
  rename_i hx;rw[List.filter_cons,if_pos (by simpa using hx),ih (by split at h <;> omega)]
theorem qsc {α:Type} (p:α->Bool):∀l:List α,qbd p l ≠ -1->∃i,∃h:i<l.length,qbd p l=(i:Int)/\p l[i]=true/\(l.take i).filter (λx=>!p x)=l.take i
 | [],h=>absurd rfl h
 | x :: l,h=>by
  rw[qbd]at h ⊢
  by_cases c:p x=true
  .rw [if_pos c];exact⟨0,by simp,rfl,c,rfl⟩
  rw[if_neg c]at h ⊢;have hn:qbd p l ≠ -1:=λe=>by rw[e]at h;simp at h
  obtain⟨i,hi,m,d,u⟩:=qsc p l hn;refine⟨i+1,by simpa using hi,?_,by simpa using d,?_⟩
  .rw [m];split <;> omega
  rw[List.take_succ_cons,List.filter_cons,if_pos (by simpa using c),u]
section
variable {α:Type} (q:α->Bool)
def qex (l:List α) (m:Nat):List α:=(l.take m).filter q++l.drop ((l.take m).filter q).length
theorem filt_len (l:List α) (m:Nat):((l.take m).filter q).length<=m:=Nat.le_trans (List.length_filter_le _ _) (by rw[List.length_take];omega)
theorem qh9 (l:List α) (m:Nat):(qex q l m).length=l.length:=by
 have h:=List.length_filter_le q (l.take m);rw[List.length_take]at h;rw[qex,List.length_append,List.length_drop];omega
theorem filtY_at (l:List α) (m j:Nat) (c:((l.take m).filter q).length<=j) (d:j<l.length):(qex q l m)[j]'(by rw[qh9];exact d)=l[j]:=by
 unfold qex;rw[List.getElem_append_right c];simp only[List.getElem_drop]
 congr 1
 omega
theorem qro (l:List α) (m:Nat) (c:m<l.length) (d:q l[m]=false):qex q l (m+1)=qex q l m/\(l.take (m+1)).filter q=(l.take m).filter q:=by
 have h:(l.take (m+1)).filter q=(l.take m).filter q:=by rw[List.take_succ_eq_append_getElem c,List.filter_append];simp[d]
 exact⟨by rw[qex,h];rfl,h⟩
theorem filtY_put (l:List α) (m:Nat) (c:m<l.length) (d:q l[m]=true) :
  qex q l (m+1)=(qex q l m).set ((l.take m).filter q).length l[m]/\(l.take (m+1)).filter q=(l.take m).filter q++[l[m]]:=by
 have h:(l.take (m+1)).filter q=(l.take m).filter q++[l[m]]:=by rw[List.take_succ_eq_append_getElem c,List.filter_append];simp[d]
 have hi:=filt_len q l m;refine⟨?_,h⟩;rw[qex,qex,h,List.set_append_right _ _ (Nat.le_refl _),Nat.sub_self,List.drop_eq_getElem_cons (show((l.take m).filter q).length<l.length by omega),List.set_cons_zero,List.length_append,List.length_singleton,List.append_assoc];rfl
end
theorem qzr (base:Nat) (T:Nat->Prop) (p:List Lb->Bool) (l:List (List Lb)) (v:Value) (B:Nat) (w:World) (d:qab qaa 1 22 base T w l v) (am:l.length<=1000000000)
  (hp:∀x∈l,∀u W,Bt (λb=>v.ownBlock=some b) w W->qaa (λ_=>True) W x [u]->Calls Tryz.prog 217 #[u,.pointer (some ⟨B,0,none⟩)] W λe w'=>e = .returned (.bool (p x))/\Ext W w') :
  Calls Tryz.prog 215 #[v,.func (.func 217) #[] #[.pointer (some ⟨B,0,none⟩)]] w λe w'=>∃A c,e = .returned (.slice A (l.filter λx=>!p x).length c)/\qab qaa 1 22 base T w' (l.filter λx=>!p x) (.slice A (l.filter λx=>!p x).length c)/\Bt (λb=>v.ownBlock=some b) w w':=by
 have J:=idxPLbs p (λ_=>True) w l v ((RSl.good qaa.good).mono (d.sl qaa.good (by decide)) λ_ _ _=>trivial) 217 #[.pointer (some ⟨B,0,none⟩)] eg217 (λx hx cs W hW hr=>by
  obtain⟨A,c,rfl,_⟩:=id hr
  exact hp x hx _ W hW.bt hr)
 by_cases hf:qbd p l = -1
 .have hc:Hid ((l.filter λx=>!p x)=l):=qw1 p l hf;rw[hf]at J;obtain⟨A,c,rfl,_,_⟩:=(d.sl qaa.good (by decide)).val;have HO:=Hd d;clear d hf
  go_enter Tryz.func215,Tryz.ntmps215
  go_wp2_with fail
  refine J.mono ?_;rintro e w1 ⟨rfl,U⟩
  go_wp2_with fail
  go_ret;rw[hc.out];exact⟨A,c,rfl,HO.out.ext qaa.good U,U.bt⟩
 obtain⟨k,hk,af,ab,ad⟩:=qsc p l hf;rw[af]at J
 obtain⟨g,G,rfl⟩:∃g G,v = .slice (some ⟨g,0,none⟩) l.length G:=by
  obtain⟨news,U,_⟩:=d;exact Joins.ownsRow_form U (by omega)
 have ak:l.length<=G/\G<=9223372036854775807:=by
  obtain⟨A,c,he,h3,h4⟩:=(d.sl qaa.good (by decide)).val;injection he with _ _ he
  exact⟨by omega,by omega⟩
 have hZ:(λb=>(Value.slice (some ⟨g,0,none⟩) l.length G).ownBlock=some b)=λb=>b=g:=by funext b;simp[Value.ownBlock,eq_comm]
 rw[hZ]at hp ⊢;have HO:=Hd d;have HP:=Hd hp;have ao:((k:Int) == -1)=false:=beq_eq_false_iff_ne.2 (by omega);have ae:(λx=>!p x) l[k]=false:=by show(!p l[k])=false;rw[ab];rfl
 have aj:=Hd ae;have ag:=Hd ad;clear d hZ hf af hp ab ae ad
 go_enter Tryz.func215,Tryz.ntmps215
 go_wp2_with fail
 refine J.mono ?_;rintro e w1 ⟨rfl,U⟩
 go_wp2_with fail
 go_loopw [5,6] (λvi vj wr=>∃m i:Nat,k<m/\m<=l.length/\vi = .int .i64 (i:Nat)/\vj = .int .i64 (m:Nat)/\i<m/\Hid (((l.take m).filter λx=>!p x).length=i/\qab qaa 1 22 base T wr (qex (λx=>!p x) l m) (.slice (some ⟨g,0,none⟩) l.length G))/\Bt (λb=>b=g) w wr) (λ_ vj _=>l.length-(intOf vj).toNat)
 case atStart =>
  have h2:=qro (λx=>!p x) l k hk aj.out;have h3:qex (λx=>!p x) l k=l:=by rw[qex,ag.out,List.length_take,Nat.min_eq_left (by omega),List.take_append_drop]
  refine⟨k+1,k,by omega,by omega,rfl,by go_num,by omega,⟨?_,?_⟩,U.bt⟩
  .rw [h2.2,ag.out,List.length_take,Nat.min_eq_left (by omega)]
  rw[h2.1,h3];exact HO.out.ext qaa.good U
 obtain⟨m,i,ap,aq,rfl,rfl,hi,hR,hB⟩:=hrel
 by_cases O:m<l.length
 .have al:i<l.length:=by omega
  obtain⟨E,D⟩:=hR.out;obtain⟨u1,a1,r1,_⟩:=D.get1 m (by rw[qh9];exact O);rw[filtY_at (λx=>!p x) l m m (by omega) O]at r1;have F:=HP.out _ (List.getElem_mem O) u1 wr hB (qaa.good.mono r1 λ_ _ _=>trivial);obtain⟨A3,c3,rfl,_,_⟩:=r1.val
  by_cases L:p l[m]=true
  .rw [L]at F;have N:=Hd (qro (λx=>!p x) l m O (by show(!p l[m])=false;rw[L];rfl));have X:=Hd D;have M:=Hd E;clear D r1 E hR L
   go_wp2_with fail
   refine F.mono ?_;rintro e w5 ⟨rfl,I⟩
   go_wp2_with fail
   go_roundw
   case rel =>
    refine⟨m+1,i,by omega,by omega,rfl,by go_num,by omega,⟨?_,?_⟩,hB.ext I⟩
    .rw [N.out.2];exact M.out
    rw[N.out.1];exact X.out.ext qaa.good I
   simp[intOf];omega
  rw[eq_false_of_ne_true L]at F;have V:=Hd (filtY_put (λx=>!p x) l m O (by show(!p l[m])=true;rw[eq_false_of_ne_true L];rfl));obtain⟨u6,b6,_,f6⟩:=D.get1 i (by rw[qh9];omega);have X:=Hd D;have M:=Hd E;have ai:=Hd r1;clear D r1 E hR L
  go_wp2_with fail
  refine F.mono ?_;rintro e w5 ⟨rfl,I⟩;have b5:=Ext.keep I b6;have f5:=qdy I (World.block_lt_of_cell? _ _ b6) f6;clear b6 f6
  go_wp2_with fail
  go_roundw
  case rel =>
   have Y:=qab.put1 qaa.good (X.out.ext qaa.good I) (by rw[qh9]) i (.slice A3 l[m].length c3) l[m] (by rw[qh9];omega) (qaa.good.bel ai.out I);refine⟨m+1,i+1,by omega,by omega,by go_num,by go_num,by omega,⟨?_,?_⟩,(hB.ext I).set (.inr rfl) _⟩
   .rw [V.out.2,List.length_append,M.out];rfl
   rw[V.out.1,M.out];exact Y
  simp[intOf];omega
 obtain⟨E,D⟩:=hR.out;have ah:m=l.length:=by omega
 subst ah;rw[List.take_length]at E
 have an:=Lib.run_clear_slice (P:=Tryz.prog) wr 30 22 0 (.slice none 0 0) Tryz.underlying30 (λ_=>by kernel_rfl) rfl rfl g i (l.length-i) (G-i) (by omega) (λj hj=>by
  obtain⟨u,U,_⟩:=D.get1 (i+j) (by rw[qh9];omega)
  rw[U];rfl) (λj hj=>by
  obtain⟨u,_,_,U⟩:=D.get1 (i+j) (by rw[qh9];omega)
  exact U)
 have hcut:=Hd (D.cut qaa.good (by rw[qh9]) i (by omega) (List.replicate (l.length-i) (.slice none 0 0)) i (by omega))
 have ac:Hid ((l.filter λx=>!p x)=(qex (λx=>!p x) l l.length).take i):=by
  show _=_;rw[qex,List.take_length,List.take_append_of_le_length (by omega),<- E,List.take_length]
 have M:=Hd E;clear D E hR
 go_wp2_with fail
 go_ret;have aa:(l.filter λx=>!p x).length=i:=M.out;refine⟨some ⟨g,0,none⟩,G,by rw[aa];rfl,?_,hB.trans hcut.out.2⟩;rw[aa,ac.out];exact hcut.out.1
end
section
open Go.Shelf
def leastOf (m:List (List Lb)):List (List Lb):=m.filter λa=>!(m.any (qge a))
def qfl (l:List (List Lb)):List (List Lb):=leastOf (qcm (qch l))
theorem qop (l:List (List Lb)):(qcm l).length<=l.length:=ql6 qct l
theorem qk4 (l:List (List Lb)):(qch l).length=l.length:=qnu l
def SetsPost (P:Nat->Prop) (base:Nat) (r:List (List Lb)) (Z:Nat->Prop) (w:World) (e:Ending) (w':World):Prop :=
 ∃A c,e = .returned (.slice A r.length c)/\qab qaa 1 22 base P w' r (.slice A r.length c)/\Bt Z w w'
theorem qab.own_lt {α:Type} {R:Rdr α} {k base:Nat} {e:TypeId} {T:Nat->Prop} {w:World} {xs:List α} {v:Value} (h:qab R k e base T w xs v) {b:Nat} (c:v.ownBlock=some b):base<=b/\b<w.heap.size:=by
 obtain⟨news,d,_⟩:=h;exact qcb d b c
theorem qwz {Z:Nat->Prop} {a b:World} {B:Nat} {t:TypeId} {v:Value} (h:Bt Z a b) (c:Boxed a B t v) (d:¬ Z B):Boxed b B t v:=(h.block B c.lt d).trans c
theorem least_c (P:Nat->Prop) (base:Nat) (hP:∀b,base<=b->P b) (l:List (List Lb)) (v:Value) (w:World) (d:qab qaa 1 22 base P w l v) (aq:base<=w.heap.size) (aA:l.length<=1000000) (ak:∀x∈l,x.length<=1000000) :
  Calls Tryz.prog 149 #[v] w (SetsPost P w.heap.size (qfl l) (λb=>v.ownBlock=some b) w):=by
 obtain⟨A,c,rfl,hc,aE⟩:=(d.sl qaa.good (by decide)).val;have ae:=λb (D:(Value.slice A l.length c).ownBlock=some b)=>d.own_lt D
 have ah:Ext w (w.alloc (.cells #[.slice A l.length c] 30)):=(Ext.refl w).alloc _;have am:=Boxed.new w 30 (.slice A l.length c);have U:=(d.mono (T':=λb=>P b/\b<w.heap.size) qaa.good λb D h=>⟨h,D⟩).ext qaa.good ah;have hs:=qrl base _ l _ _ U (by omega);have aD:(qch l).length=l.length:=qk4 l;have al:(qcm (qch l)).length<=1000000:=by have:=qop (qch l);omega
 have aF:=Hd U;clear d U
 go_enter Tryz.func149,Tryz.ntmps149
 go_wp2_with fail
 refine hs.mono ?_;rintro e w1 ⟨rfl,ap,V⟩;have aa:=qwz V am (λe=>by have:=(ae _ e).2;omega);have ac:=aa.cell;have O:=qoq base _ (qch l) _ w1 ap (by omega);obtain⟨m,hm⟩:=nm (qcm (qch l));have I:Hid (qfl l=leastOf m):=by show _=_;rw[qfl,hm]
 have aw:∀x∈m,x.length<=1000000:=λx hx=>ak x ((qhr l x).1 (qlc qct _ x (by rw[<- hm]at hx;exact hx)))
 rw[hm]at O al;clear hm
 go_wp2_with fail
 refine O.mono ?_;rintro e w2 ⟨X,c2,rfl,N,L⟩;have G:=qwz L aa (λe=>by have:=(ae _ e).2;omega);have az:=G.cell;have ay:=G.frozen;have aC:w.heap.size+1<=w2.heap.size:=by have h1:=V.size;have h2:=L.size;simp at h1;omega
 obtain⟨W3,E⟩:=nm (w2.setCell ⟨w.heap.size,0,none⟩ (.slice X m.length c2));have F:Boxed W3 w.heap.size 30 (.slice X m.length c2):=by rw[<- E];exact G.set _
 have aB:W3.heap.size=w2.heap.size:=by rw[<- E];simp
 have ad:Bt (λb=>b=w.heap.size) w2 W3:=by rw[<- E];exact(Bt.refl (λb=>b=w.heap.size) w2).set (p:=⟨w.heap.size,0,none⟩) (.inr rfl) _
 have ai:(Value.slice X m.length c2).ownBlock≠some w.heap.size:=λe=>by
  obtain⟨news,h1,_⟩:=N;exact G.not_row (by decide) h1 e.symm
 have aj:qab qaa 1 22 base (λb=>P b/\b<w.heap.size) W3 m (.slice X m.length c2):=N.bt qaa.good ad λb _ hz=>by
  have an:b=w.heap.size:=hz;subst an;exact⟨λh=>Nat.lt_irrefl _ h.2,ai⟩
 have af:RSl qaa 1 (λb=>P b/\b<W3.heap.size) W3 m [.slice X m.length c2]:=(RSl.good qaa.good).mono (aj.sl qaa.good (by decide)) λb D h=>⟨h.elim (λh=>h.1) (hP b),D⟩
 have Y:=cloneLbs _ m _ W3 af (by omega);have ax:=F.cell;clear N ac hs O
 go_wp2_with fail
 clear E;refine Y.mono ?_;rintro e w4 ⟨v4,rfl,M,ag⟩;obtain⟨A4,c4,rfl,_,_⟩:=(M.sl qaa.good (by decide)).val;have J:=λb D=>(M.own_lt (b:=b) D).1
 have hd:=qzr W3.heap.size _ (λa=>m.any (qge a)) m (.slice A4 m.length c4) w.heap.size w4 M (by omega) λx hx u W D hr=>by
  have hk:Kp (λb=>b<W3.heap.size) W3 W:=(Ext.kp ag).trans (D.kp λb _ h e=>by have:=J b e;omega);refine least1_c (λ_=>True) x m u (.slice X m.length c2) w.heap.size W hr ((RSl.good qaa.good).mono ((RSl.good qaa.good).move ((RSl.good qaa.good).mono af (S':=λb=>b<W3.heap.size) λb D _=>D) hk) λ_ _ _=>trivial) (Nat.le_trans (aw x hx) (by decide)) ?_;exact(World.cell?_of_block (a:=⟨w.heap.size,0,none⟩) (hk.block _ F.lt F.lt)).trans F.cell
 clear Y
 go_wp2_with fail
 refine hd.mono ?_;rintro e w5 ⟨A5,c5,rfl,ab,av⟩;have au:=Hd ab;clear ab hd
 go_wp2_with fail
 go_ret
 have ao:Bt (λb=>(Value.slice A l.length c).ownBlock=some b) w w5:=by
  have h0:Bt (λb=>(Value.slice A l.length c).ownBlock=some b\/w.heap.size<=b) w w5 :=
   (((((ah.bt.trans (V.mono λb _ h=>.inl h)).trans (L.mono λb _ h=>.inl h)).trans (ad.mono λb _ h=>.inr (Nat.le_of_eq (Eq.symm h)))).trans ag.bt).trans (av.mono λb _ h=>.inr (by have:=J b h;omega)))
  exact h0.mono λb D h=>h.resolve_right (by omega)
 refine⟨A5,c5,?_,?_,ao⟩
 .rw [I.out];rfl
 rw[I.out];exact(au.out.mono qaa.good λ_ _ h=>h.1).base (by omega)
end
section
open Go.Shelf
theorem qsw {d:Func} {p:Tmp} (h:d.results = #[.cell p 145]) (tmps:Array Value) (w:World) (g:Nat) (v u:Value) (m:tmps.getD p undef = .pointer (some ⟨g,0,none⟩)) (D:w.cell? ⟨g,0,none⟩=some v) (A:w.cell? ⟨g,1,none⟩=some u) :
  (results d tmps).run Tryz.prog w = .ok (.agg #[v,u]) w:=by
 have c:tmps[p]?.getD undef = .pointer (some ⟨g,0,none⟩):=by simpa using m
 simp[results,h,c,asAddr,go_sem,D,A]
abbrev RBs (base:Nat) (w:World) (bs:List Bool) (v:Value):Prop:=qab qac 1 4 base (λ_=>False) w bs v
theorem info4:(Tryz.prog.info? 4).map (λi=>(i.zero,i.size,i.bytes))=some (some (.bool false),1,1):=by kernel_rfl
theorem qzs (n:Nat):madeCells (Value.bool false).cells (n*1)=Array.replicate n (.bool false):=by
 rw[Nat.mul_one]
 apply Array.ext
 .simp [size_madeCells]
 intro i d c;have:i % 1=0:=Nat.mod_one i;simp[madeCells,Value.cells,this]
theorem qhy (W:World) (n:Nat) (hn:n<=1000000) :
  (Instr.makeSlice 73 (.int .i64 (n:Int)) (.int .i64 (n:Int))).run Tryz.prog W = .ok (.slice (some ⟨W.heap.size,0,none⟩) n n) (W.alloc (.cells (Array.replicate n (.bool false)) 4)):=by
 obtain⟨i,hi,c⟩:=Option.map_eq_some_iff.1 info4;simp only[Prod.mk.injEq]at c;obtain⟨m,d,u⟩:=c;have h:=run_makeSlice (P:=Tryz.prog) (w:=W) 73 4 i (.bool false) Tryz.underlying73 hi m .i64 .i64 n n (by omega) (Int.le_refl _) (by rw[d];simp;omega) (by rw[u];omega) (by omega);rw[d]at h;simp only[Int.toNat_natCast,qzs]at h;exact h
theorem qoi (S:Nat->Prop) (w:World):∀c:List Bool,Flat qac 1 S w c (c.map Value.bool)
 | []=>rfl
 | b :: c=>⟨[.bool b],_,rfl,rfl,rfl,qoi S w c⟩
theorem qf4 (W:World) (base n:Nat) (c:base<=W.heap.size) (hn:n<=1000000):RBs base (W.alloc (.cells (Array.replicate n (.bool false)) 4)) (List.replicate n false) (.slice (some ⟨W.heap.size,0,none⟩) n n):=by
 refine⟨(List.replicate n false).map Value.bool,?_,qoi ..⟩;have h:=World.ownsRow_lit (base:=base) (e:=4) (size:=1) W (Array.replicate n (.bool false)) n c (by unfold maxLen;omega) (by simp);simpa using h
def qok (n1 n2:Nat) (w:World) (e:Ending) (w':World):Prop:=∃v1 v2,e = .returned (.agg #[v1,v2])/\RBs w.heap.size w' (List.replicate n1 false) v1/\RBs w.heap.size w' (List.replicate n2 false) v2/\(∀q,v1.ownBlock=some q->v2.ownBlock≠some q)/\Ext w w'
theorem cov_fin1 {u:Func} {tmps:Array Value} {w:World} {c d:Nat} (h:u.results = #[.cell 2 145]) (G:tmps.getD 2 undef = .pointer (some ⟨w.heap.size,0,none⟩)) (I:c<=1000000) (E:d<=1000000) :
  bodyPost Tryz.prog u (qok c d w) .ret { tmps:=tmps,defers:=[] } ((((w.alloc (.cells #[.slice (some ⟨w.heap.size+1,0,none⟩) c c,.slice (some ⟨w.heap.size+1+1,0,none⟩) d d] 145)).alloc (.cells (Array.replicate c (.bool false)) 4)).alloc (.cells (Array.replicate d (.bool false)) 4)).drew):=by
 refine bodyPost_ret (qsw h _ _ w.heap.size (.slice (some ⟨w.heap.size+1,0,none⟩) c c) (.slice (some ⟨w.heap.size+1+1,0,none⟩) d d) G (by go_simp) (by go_simp)) rfl ?_;obtain⟨C,D⟩:=nm (Obj.cells #[.slice (some ⟨w.heap.size+1,0,none⟩) c c,.slice (some ⟨w.heap.size+1+1,0,none⟩) d d] 145);rw[D];have A:=qf4 (w.alloc C) w.heap.size c (by simp) I;have m:=qf4 ((w.alloc C).alloc (.cells (Array.replicate c (.bool false)) 4)) w.heap.size d (by simp;omega) E;rw[World.size_alloc]at A m;rw[World.size_alloc]at m;exact⟨_,_,rfl,A.ext qac.good (Below.drew ((Ext.refl _).alloc _)),m.ext qac.good (Below.drew (Ext.refl _)),λq e F=>by simp[Value.ownBlock]at e F;omega,Below.drew ((((Ext.refl _).alloc _).alloc _).alloc _)⟩
theorem cov_fin2 {u:Func} {tmps:Array Value} {w:World} {d c:Nat} (h:u.results = #[.cell 2 145]) (G:tmps.getD 2 undef = .pointer (some ⟨w.heap.size,0,none⟩)) (I:d<=1000000) (E:c<=1000000) :
  bodyPost Tryz.prog u (qok d c w) .ret { tmps:=tmps,defers:=[] } ((((w.alloc (.cells #[.slice (some ⟨w.heap.size+1+1,0,none⟩) d d,.slice (some ⟨w.heap.size+1,0,none⟩) c c] 145)).alloc (.cells (Array.replicate c (.bool false)) 4)).alloc (.cells (Array.replicate d (.bool false)) 4)).drew):=by
 refine bodyPost_ret (qsw h _ _ w.heap.size (.slice (some ⟨w.heap.size+1+1,0,none⟩) d d) (.slice (some ⟨w.heap.size+1,0,none⟩) c c) G (by go_simp) (by go_simp)) rfl ?_;obtain⟨C,D⟩:=nm (Obj.cells #[.slice (some ⟨w.heap.size+1+1,0,none⟩) d d,.slice (some ⟨w.heap.size+1,0,none⟩) c c] 145);rw[D];have A:=qf4 (w.alloc C) w.heap.size c (by simp) E;have m:=qf4 ((w.alloc C).alloc (.cells (Array.replicate c (.bool false)) 4)) w.heap.size d (by simp;omega) I;rw[World.size_alloc]at A m;rw[World.size_alloc]at m;exact⟨_,_,rfl,m.ext qac.good (Below.drew (Ext.refl _)),A.ext qac.good (Below.drew ((Ext.refl _).alloc _)),λq e F=>by simp[Value.ownBlock]at e F;omega,Below.drew ((((Ext.refl _).alloc _).alloc _).alloc _)⟩
theorem qsk (S:Nat->Prop) (s:Sy) (g:Nat) (w:World) (hS:qaz S w g s) (A:s.ls.length<=1000000) (D:s.es.length<=1000000) :
  Calls Tryz.prog 112 #[.pointer (some ⟨g,0,none⟩)] w (qok s.ls.length s.es.length w):=by
 obtain⟨v,u,m,f,d,G,I,J,Y,L,E,c⟩:=hS.ex;obtain⟨N,V,rfl,_,_⟩:=G.val;obtain⟨M,X,rfl,_,_⟩:=I.val;have F:=(Array.getElem?_eq_some_iff.1 d).1;have g1:w.cell? ⟨g,1,none⟩=some (.slice N s.ls.length V):=cell_of_row w g 1 _ _ _ d;have g2:w.cell? ⟨g,2,none⟩=some (.slice M s.es.length X):=cell_of_row w g 2 _ _ _ d;clear hS G I L c E d;have O:=λW=>qhy W s.ls.length A
 have U:=λW=>qhy W s.es.length D
 go_enter Tryz.func112,Tryz.ntmps112
 go_wp2_with fail
 go_region_with (fail)
 all_goals go_wp2_with fail
 all_goals first
  | exact cov_fin1 rfl rfl A D
  | exact cov_fin2 rfl rfl A D
end
section
open Go.Shelf
def qe8 (s:Sy) (x:Lb) (bs:List Bool):List Bool:=if qdt x s.ls=true then bs.set (qci s.ls x) true else bs
theorem qre (s:Sy) (x:Lb) (c:List Bool):(qe8 s x c).length=c.length:=by unfold qe8;split <;> simp
theorem inLb_lt {s:Sy} {x:Lb} (h:qdt x s.ls=true):qci s.ls x<s.ls.length:=by
 by_cases c:qci s.ls x<s.ls.length
 .exact c
 rw[qdt,qqr c]at h;cases h
theorem mark_c (S:Nat->Prop) (s:Sy) (g:Nat) (x:Lb) (G:List Bool) (base:Nat) (v1 v2:Value) (M:List Value) (w:World) (hS:qaz S w g s) (hx:RLb S w x M) (hr:RBs base w G v1) (h2:∃A n c,v2 = .slice A n c) (N:G.length=s.ls.length) (hl:s.ls.length<=1000000) :
  Calls Tryz.prog 174 #[.pointer (some ⟨g,0,none⟩),.agg #[v1,v2],.agg M.toArray] w λe w'=>e = .returned (.tuple #[])/\RBs base w' (qe8 s x G) v1/\Bt (λq=>v1.ownBlock=some q) w w':=by
 obtain⟨v,u,m,f,hg,hL,hE,ag,af,hM,ac,J⟩:=hS.ex;have d:=λW (E:Ext w W)=>qpy S s.ls x v M W (qaa.good.bel hL E) (RLb.good.bel hx E) (by omega)
 obtain⟨Al,cl,rfl,_,_⟩:=hL.val;obtain⟨_,vx,rfl,V⟩:=id hx;obtain⟨Ax,M,rfl,_,_⟩:=V.val;obtain⟨A2,n2,c2,rfl⟩:=h2;obtain⟨A1,O,rfl,_,_⟩:=(hr.sl qac.good (by decide)).val;have ad:=(Array.getElem?_eq_some_iff.1 hg).1;have g1:w.cell? ⟨g,1,none⟩=some (.slice Al s.ls.length cl):=cell_of_row w g 1 _ _ _ hg;have HR:=Hd hr;have ab:∀q,(Value.slice A1 G.length O).ownBlock=some q->base<=q/\q<w.heap.size:=λq hq=>by obtain⟨news,h2,_⟩:=hr;exact qcb h2 q hq
 have aa:=Hd N;clear hS hL hE hM J ac hg hx V hr N
 cases I:qdt x s.ls with
 | false =>
  rw[I]at d;have HV:=Hd (show qe8 s x G=G from by unfold qe8;rw[I];rfl);clear I
  go_enter Tryz.func174,Tryz.ntmps174
  go_wp2_with fail
  obtain⟨W,E⟩:=nm ((w.alloc (.cells #[.slice A1 G.length O,.slice A2 n2 c2] 145)).alloc (.cells #[.int .i64 x.g,.slice Ax x.v.length M] 61));have D:Ext w W:=by rw[<- E];exact((Ext.refl w).alloc _).alloc _
  have y1:=Ext.keep D g1;have y2:W.cell? ⟨w.heap.size+1,0,none⟩=some (.int .i64 x.g):=by subst E;go_simp
  have y3:W.cell? ⟨w.heap.size+1,1,none⟩=some (.slice Ax x.v.length M):=by subst E;go_simp
  have y4:W.cell? ⟨w.heap.size,0,none⟩=some (.slice A1 G.length O):=by subst E;go_simp
  rw[E];clear E
  (refine qap ?_;(repeat (first | go_big_quiet_step (exact qaq (d _ (Ext.trans' D (qa7 _ _)))) | quiet_step (exact qaq (d _ (Ext.trans' D (qa7 _ _))))));refine wpQuiet_nil ?_)
  intro Y L;have F:Ext w Y:=D.trans' L
  go_wp2_with fail
  go_end0
  rw[HV.out];exact⟨rfl,HR.out.ext qac.good F,F.bt⟩
 | true =>
  have X:=inLb_lt I;rw[<- aa.out]at X;rw[I]at d;have HV:=Hd (show qe8 s x G=G.set (qci s.ls x) true from by unfold qe8;rw[I];rfl);obtain⟨i,hi⟩:=nm (qci s.ls x);rw[hi]at d X HV;clear I hi;obtain⟨news,J,_⟩:=id HR.out;obtain⟨U,ah,he⟩:=Joins.ownsRow_form J (by omega);injection he with he1 _ he2
  subst he1;obtain rfl:=he2;obtain⟨u,gc,hu,gf⟩:=HR.out.get1 i (by omega);obtain rfl:u = .bool G[i]:=by simpa[qac]using hu
  have ai:=ab U rfl;clear J hu
  go_enter Tryz.func174,Tryz.ntmps174
  go_wp2_with fail
  obtain⟨W,E⟩:=nm ((w.alloc (.cells #[.slice (some ⟨U,0,none⟩) G.length O,.slice A2 n2 c2] 145)).alloc (.cells #[.int .i64 x.g,.slice Ax x.v.length M] 61));have D:Ext w W:=by rw[<- E];exact((Ext.refl w).alloc _).alloc _
  have y1:=Ext.keep D g1;have y2:W.cell? ⟨w.heap.size+1,0,none⟩=some (.int .i64 x.g):=by subst E;go_simp
  have y3:W.cell? ⟨w.heap.size+1,1,none⟩=some (.slice Ax x.v.length M):=by subst E;go_simp
  have y4:W.cell? ⟨w.heap.size,0,none⟩=some (.slice (some ⟨U,0,none⟩) G.length O):=by subst E;go_simp
  rw[E];clear E
  (refine qap ?_;(repeat (first | go_big_quiet_step (exact qaq (d _ (Ext.trans' D (qa7 _ _)))) | quiet_step (exact qaq (d _ (Ext.trans' D (qa7 _ _))))));refine wpQuiet_nil ?_)
  intro Y L;have F:Ext w Y:=D.trans' L;have b0:Y.cell? ⟨w.heap.size,0,none⟩=some (.slice (some ⟨U,0,none⟩) G.length O):=Ext.keep L y4;have ae:=Ext.keep F gc;have aj:=qdy F (World.block_lt_of_cell? w _ gc) gf
  go_wp2_with fail
  go_end0
  rw[HV.out];refine⟨rfl,?_,Bt.set (Z:=λq=>(Value.slice (some ⟨U,0,none⟩) G.length O).ownBlock=some q) (p:=⟨U,i,none⟩) F.bt (.inr rfl) _⟩;have hp:=qab.put1 qac.good (HR.out.ext qac.good F) rfl i (.bool true) true (by omega) rfl;exact hp
end
section
open Go.Shelf
theorem qvv {P:Program} {md:Region.Mode} {m:Array Oper} {Q:Exit->Act->World->Prop} (l n:Nat) (F:qlg m=true) (D:¬ LetsOut Q):∀(d:Nat) (c:Array Bool) (a:Act) (w:World),
  wpAny P md m Q d c a w->wpAnyIn (Fence.wide.inRound l) n P md m Q d c a w
 | 0,_,_,_,h=>h
 | d+1,c,a,w,h=>⟨h.1,λi hi=>by
  have u:=wpOp_mono (λG w' I=>qvv l n F D d _ G w' I) (h.2 i hi);unfold wpOp at u;unfold wpOpIn
  cases E:m[i]? with
  | none =>
   simp only[E]at u ⊢;exact u
  | some o =>
   simp only[E]at u ⊢
   split
   .rename_i A;simp only[A,if_true]at u;exact qtj l n (qr3 F E) (u.resolve_right λh=>D h.2)
   rename_i A;simp only[A]at u
   exact⟨λ_ _=>trivial,u⟩⟩
theorem qps {P:Program} {l n id:Nat} {Q:Exit->Act->World->Prop} {a:Act} {w:World} {c:List Oper} (S:World->Prop) (u:P.follows .mixedOrders=true) (m:qlg c.toArray=true) (d:¬ LetsOut Q) (hS:S w.drew)
  (h:S w.drew->wpAnyH P .any c.toArray Q S c.toArray.size (Array.replicate c.toArray.size false) a w.drew):(Code.region id c.toArray true).wpIn (Fence.wide.inRound l) n P Q a w :=
 wpIn_region_any u (qvv l n m d _ _ _ _ (wpAny_of_held _ _ _ _ (h hS)))
structure Cv where
 l:List Bool
 e:List Bool
def qe2 (s:Sy) (tr:List Lb) (k:Nat) (l:Int):Bool:=qev s l λy=>decide (y.g = -1) || (match tr[k]? with
 | some x=>qat y.g && decide (qak y x=0)
 | none=>false)
def qf0 (s:Sy) (tr:List Lb) (k:Nat) (es:List Bool) (j:Fin s.es.length):List Bool:=if qe2 s tr k s.es[j].l=true then es.set j.1 true else es
def qdj (s:Sy) (tr:List Lb) (k:Nat) (js:List (Fin s.es.length)) (es:List Bool):List Bool:=js.foldl (qf0 s tr k) es
def qb6 (s:Sy) (tr:List Lb) (k:Nat) (sts:List Int) (es:List Bool):List Bool:=sts.foldl (λes st=>qdj s tr k (qay s.es st) es) es
def qb4 (s:Sy) (tr:List Lb) (k:Nat) (ls:List Bool):List Bool:=if k=0 then ls else match tr[k-1]? with
 | some x=>qe8 s x ls
 | none=>ls
def qfx (s:Sy) (mu:List Lb) (ls:List Bool):List Bool:=mu.foldl (λls x=>qe8 s x ls) ls
def qgm (s:Sy) (t:Te) (k:Nat) (ls:List Bool):List Bool:=if k=t.tr.length then qfx s t.mu ls else ls
def qhh (s:Sy) (t:Te) (k:Nat) (c:Cv):Cv:=⟨qgm s t k (qb4 s t.tr k c.l),qb6 s t.tr k (qao s (t.tr.take k)) c.e⟩
def qfj (s:Sy) (t:Te):Nat->Nat->Cv->Cv
 | 0,_,c=>c
 | f+1,k,c=>if qao s (t.tr.take k)=[] then c else qfj s t f (k+1) (qhh s t k c)
def qa9 (s:Sy) (t:Te) (c:Cv):Cv:=qfj s t (t.tr.length+1) 0 c
def qaw (s:Sy) (t:Te) (c:Cv):Nat->Cv
 | 0=>c
 | k+1=>qhh s t k (qaw s t c k)
theorem qv0 (s:Sy) (d:List Lb) (k:Nat) (c:List Bool) (j:Fin s.es.length):(qf0 s d k c j).length=c.length:=by unfold qf0;split <;> simp
theorem qlo (s:Sy) (m:List Lb) (k:Nat):∀(d:List (Fin s.es.length)) (c:List Bool),(qdj s m k d c).length=c.length
 | [],_=>rfl
 | j :: d,c=>(qlo s m k d _).trans (qv0 s m k c j)
theorem qvw (s:Sy) (c:List Lb) (k:Nat) (m:List (Fin s.es.length)) (j:Fin s.es.length) (d:List Bool):qdj s c k (m++[j]) d=qf0 s c k (qdj s c k m d) j:=by simp[qdj]
theorem qmd (s:Sy) (m:List Lb) (k:Nat):∀(c:List Int) (d:List Bool),(qb6 s m k c d).length=d.length
 | [],_=>rfl
 | st :: c,d=>(qmd s m k c _).trans (qlo s m k _ d)
theorem qvf (s:Sy) (d:List Lb) (k:Nat) (c:List Int) (m:Int) (u:List Bool):qb6 s d k (c++[m]) u=qdj s d k (qay s.es m) (qb6 s d k c u):=by simp[qb6]
theorem qln (s:Sy) (d:List Lb) (k:Nat) (c:List Bool):(qb4 s d k c).length=c.length:=by
 unfold qb4
 split
 .rfl
 split
 .exact qre ..
 rfl
theorem qn1 (s:Sy):∀(d:List Lb) (c:List Bool),(qfx s d c).length=c.length
 | [],_=>rfl
 | x :: d,c=>(qn1 s d _).trans (qre s x c)
theorem qs2 (s:Sy) (d:List Lb) (x:Lb) (c:List Bool):qfx s (d++[x]) c=qe8 s x (qfx s d c):=by simp[qfx]
theorem qor (s:Sy) (t:Te) (k:Nat) (c:Cv):(qhh s t k c).l.length=c.l.length/\(qhh s t k c).e.length=c.e.length:=by
 constructor
 .show (qgm s t k (qb4 s t.tr k c.l)).length=_;unfold qgm
  split
  .rw [qn1,qln]
  rw[qln]
 exact qmd ..
theorem qu2 (s:Sy) (t:Te) (c:Cv):∀k,(qaw s t c k).l.length=c.l.length/\(qaw s t c k).e.length=c.e.length
 | 0=>⟨rfl,rfl⟩
 | k+1=>by
  have m:=qu2 s t c k;have d:=qor s t k (qaw s t c k);exact⟨d.1.trans m.1,d.2.trans m.2⟩
theorem qtv (s:Sy) (t:Te):∀(f k:Nat) (c:Cv),(qfj s t f k c).l.length=c.l.length/\(qfj s t f k c).e.length=c.e.length
 | 0,_,_=>⟨rfl,rfl⟩
 | f+1,k,c=>by
  rw[qfj]
  split
  .exact ⟨rfl,rfl⟩
  have m:=qtv s t f (k+1) (qhh s t k c);have d:=qor s t k c;exact⟨m.1.trans d.1,m.2.trans d.2⟩
theorem qmi (s:Sy) (t:Te) (c:Cv):(qa9 s t c).l.length=c.l.length/\(qa9 s t c).e.length=c.e.length:=qtv ..
structure RCv (base:Nat) (w:World) (c:Cv) (v1 v2:Value):Prop where
 l:RBs base w c.l v1
 e:RBs base w c.e v2
 ap:∀q,v1.ownBlock=some q->v2.ownBlock≠some q
def ZCv (v1 v2:Value) (q:Nat):Prop:=v1.ownBlock=some q\/v2.ownBlock=some q
theorem qe6 {base:Nat} {w w':World} {u:List Bool} {v:Value} {Z:Nat->Prop} (h:RBs base w u v) (D:Bt Z w w') (G:∀q,v.ownBlock=some q->¬ Z q):RBs base w' u v:=by
 obtain⟨news,⟨J,E⟩,F⟩:=h;refine⟨news,⟨J,E.imp id ?_⟩,F.imp λx _ cs h=>h⟩;rintro⟨g,d,m,rfl,I,A,c⟩;exact⟨g,d,m,rfl,I,(D.block g (Array.getElem?_eq_some_iff.1 A).1 (G g rfl)).trans A,c⟩
theorem qg1 {base:Nat} {w:World} {d:List Bool} {v:Value} (h:RBs base w d v) {q:Nat} (m:v.ownBlock=some q):base<=q/\q<w.heap.size:=by
 obtain⟨news,c,_⟩:=h;exact qcb c q m
theorem RCv.ext {base:Nat} {w w':World} {c:Cv} {v1 v2:Value} (h:RCv base w c v1 v2) (d:Ext w w'):RCv base w' c v1 v2:=⟨h.l.ext qac.good d,h.e.ext qac.good d,h.ap⟩
theorem RCv.keep {base:Nat} {w w':World} {c:Cv} {v1 v2:Value} {Z:Nat->Prop} (h:RCv base w c v1 v2) (d:Bt Z w w') (m:∀q,ZCv v1 v2 q->¬ Z q):RCv base w' c v1 v2 :=
 ⟨qe6 h.l d λq e=>m q (.inl e),qe6 h.e d λq e=>m q (.inr e),h.ap⟩
theorem Bt.tail {Z Z':Nat->Prop} {a b c:World} (h:Bt Z a b) (k:Bt Z' b c) (d:∀i,Z' i->a.heap.size<=i):Bt Z a c :=
 ⟨k.os.trans h.os,k.tape.trans h.tape,k.output.trans h.output,Nat.le_trans h.size k.size,λi hi hn=>(k.block i (Nat.lt_of_lt_of_le hi h.size) λe=>by have:=d i e;omega).trans (h.block i hi hn)⟩
theorem RCv.own {base B:Nat} {c:Cv} {v1 v2:Value} {W0:World} (d:RCv base W0 c v1 v2) (E:W0.heap.size<=B) {X Y:World} {r:Option Nat} {m:Cv} (h:RCv base X m v1 v2) (D:X.grownBy Y r) (hr:∀q,r=some q->B<=q):RCv base Y m v1 v2:=by
 have key:∀{bs v},RBs base X bs v->(∀q,v.ownBlock=some q->q<W0.heap.size)->RBs base Y bs v:=λh A=>qe6 h (Bt.of_grown D) λq e u=>by
  have:=A q e;have:=hr q u.symm;omega
 exact⟨key h.l λq e=>(qg1 d.l e).2,key h.e λq e=>(qg1 d.e e).2,h.ap⟩
theorem qng {base B:Nat} {c d:List Bool} {v:Value} {W0:World} (A:RBs base W0 c v) (D:W0.heap.size<=B) {X Y:World} {r:Option Nat} (h:RBs base X d v) (u:X.grownBy Y r) (hr:∀q,r=some q->B<=q):RBs base Y d v:=qe6 h (Bt.of_grown u) λq e m=>by
 have:=(qg1 A e).2;have:=hr q m.symm;omega
end
section
open Go.Shelf
def VM:Array MapEntry:=#[{ key:=.int .i64 1,val:=.func (.func 168) #[] #[],born:=0 },{ key:=.int .i64 2,val:=.func (.func 170) #[] #[],born:=1 },{ key:=.int .i64 3,val:=.func (.func 171) #[] #[],born:=2 }]
theorem qp6 {W:World} {m:Nat} {u:Array MapEntry} {c:Nat} (h:W.heap[m]? = some (.map u c)) (A:List Int) (F:u.toList.map (·.key)=A.map (Value.int .i64)) (a:Int) (D:a∉A) (v:Value) :
  (Instr.mapUpdate 136 (.map (some m)) (.int .i64 a) v).run Tryz.prog W = .ok () (W.putObj m (.map (u.push { key:=.int .i64 a,val:=v,born:=c }) (c+1))):=by
 obtain⟨d,G,hs,E⟩:=qio.kind;have hf:=qkv hs a u.toList A 0 F;rw[dif_neg D]at hf;unfold Instr.mapUpdate Instr.findKey;simp[run_underlying Tryz.underlying136,run_underlying G,getObj,setObj,Sem.run,h,E,hf,World.putObj]
theorem qxz (w:World):∃A u d:World,(Instr.mapUpdate 136 (.map (some w.heap.size)) (.int .i64 1) (.func (.func 168) #[] #[])).run Tryz.prog (w.alloc (.map #[] 0)) = .ok () A /\
  (Instr.mapUpdate 136 (.map (some w.heap.size)) (.int .i64 2) (.func (.func 170) #[] #[])).run Tryz.prog A = .ok () u/\(Instr.mapUpdate 136 (.map (some w.heap.size)) (.int .i64 3) (.func (.func 171) #[] #[])).run Tryz.prog u = .ok () d /\
  d.heap[w.heap.size]? = some (.map VM 3)/\Ext w d:=by
 have c:∀(W:World) o,Ext w W->Ext w (W.putObj w.heap.size o):=λW o h=>⟨h.os,h.tape,h.output,by simpa using h.size,λk D=>(World.putObj_heap_other (by omega)).trans (h.block k D)⟩
 have m:Ext w (w.alloc (.map #[] 0)):=(Ext.refl w).alloc _;have F:(w.alloc (.map #[] 0)).heap[w.heap.size]? = some (.map #[] 0):=World.alloc_heap_new w _;have E:=qp6 F [] rfl 1 (by simp) (.func (.func 168) #[] #[]);refine⟨_,_,_,E,qp6 (World.putObj_heap_same (by simp)) [1] rfl 2 (by simp) _,qp6 (World.putObj_heap_same (by simp)) [1,2] rfl 3 (by simp) _,(World.putObj_heap_same (by simp)),c _ _ (c _ _ (c _ _ m))⟩
theorem qv1 (w:World):Calls Tryz.prog 103 #[] w λe w'=>∃m,e = .returned (.map (some m))/\w'.heap[m]? = some (.map VM 3)/\w.heap.size<=m/\Ext w w':=by
 have u:=@run_makeMap Tryz.prog;obtain⟨I,D,A,G,F,E,d,c⟩:=qxz w
 go_enter Tryz.func103,Tryz.ntmps103
 go_wp2_with fail
 go_ret;exact⟨_,rfl,d,Nat.le_refl _,c⟩
end
section
/- slices.IndexFunc and ContainsFunc at each element type of the program: what they come to,whatever function value they are given. -/
theorem idxFTe {σ:Type} (J:σ->World->Prop) (d:σ->Te->Bool×σ) (S:Nat->Prop) (w:World) (xs:List (Te)) (v:Value) (N:RSl RTe 2 S w xs [v]) (g:Nat) (lb:Array Value)
  (eg:∀args w,(callFunc g args).run Tryz.prog w = .ok (.enter g args) w) (V:∀s W,J s W->Kp S w W)
  (U:∀x∈xs,∀s cs W,J s W->RTe S W x cs->Calls Tryz.prog g (#[.agg cs.toArray]++lb) W λe w'=>e = .returned (.bool (d s x).1)/\J (d s x).2 w') (F:σ) (h0:J F w) :
  Calls Tryz.prog 164 #[v,.func (.func g) #[] lb] w λe w'=>e = .returned (.int .i64 (qav d F xs).1)/\J (qav d F xs).2 w':=by
 obtain⟨A,c,rfl,hc,aa⟩:=N.val;have HX:=Hd N;have Y:=Hd U;have HJ:=Hd V;clear N U V
 go_enter Tryz.func164,Tryz.ntmps164
 go_wp2
 go_loopw [5,8] (λ_ i wr=>∃k:Nat,k<=xs.length/\i = .int .i64 k/\Hid (∃s,J s wr/\qav d F xs=((qav d s (xs.drop k)).1+(if (qav d s (xs.drop k)).1<0 then 0 else (k:Int)),(qav d s (xs.drop k)).2))) (λ_ i _=>xs.length-(intOf i).toNat)
 case atStart=>exact⟨0,Nat.zero_le _,rfl,F,h0,by simp⟩
 obtain⟨k,hk,rfl,s,hs,hf⟩:=hrel
 by_cases E:k<xs.length
 .obtain ⟨b,M,cs,rfl,hb,hS,X,hr,m⟩:=((RSl.good RTe.good).move HX.out (HJ.out _ _ hs)).get k E;have u:=Y.out xs[k] (List.getElem_mem E) s cs wr hs hr
  obtain⟨G,L,rfl⟩:∃G L,cs=[G,L]:=by
   match cs,X with
   | [G,L],_=>exact⟨G,L,rfl⟩
  have g0:=(by simpa using m.get 0 _:wr.cell? ⟨b,M+k*2,none⟩=some G)
  have g1:=m.get 1 _;rw[List.drop_eq_getElem_cons E,qav]at hf;clear m X hS hr
  cases O:(d s xs[k]).1 with
  | true =>
   rw[O]at u hf;have I:=Hd hf;clear hf
   go_wp2_with fail
   refine u.mono ?_;rintro e w' ⟨rfl,D⟩
   go_wp2_with fail
   go_ret;rw[I.out];exact⟨by simp,D⟩
  | false =>
   rw[O]at u hf;have I:=Hd hf;clear hf
   go_wp2_with fail
   refine u.mono ?_;rintro e w' ⟨rfl,D⟩
   go_wp2_with fail
   go_roundw
   case rel =>
    refine⟨k+1,by omega,by go_num,_,D,?_⟩;rw[I.out];exact qjo _ _
   simp[intOf];omega
 have hd:xs.drop k=[]:=List.drop_of_length_le (by omega);rw[hd,qav]at hf;have I:=Hd hf;clear hf
 go_wp2
 go_ret;rw[I.out];exact⟨by simp,hs⟩
theorem conFTe {σ:Type} (J:σ->World->Prop) (d:σ->Te->Bool×σ) (S:Nat->Prop) (w:World) (xs:List (Te)) (v:Value) (D:RSl RTe 2 S w xs [v]) (g:Nat) (lb:Array Value)
  (L:∀args w,(callFunc g args).run Tryz.prog w = .ok (.enter g args) w) (G:∀s W,J s W->Kp S w W)
  (F:∀x∈xs,∀s cs W,J s W->RTe S W x cs->Calls Tryz.prog g (#[.agg cs.toArray]++lb) W λe w'=>e = .returned (.bool (d s x).1)/\J (d s x).2 w') (u:σ) (M:J u w) :
  Calls Tryz.prog 106 #[v,.func (.func g) #[] lb] w λe w'=>e = .returned (.bool (qc9 d u xs).1)/\J (qc9 d u xs).2 w':=by
 obtain⟨A,c,rfl,N,I⟩:=D.val;have m:=idxFTe J d S w xs _ D g lb L G F u M;rw[qje];clear D F G
 go_enter Tryz.func106,Tryz.ntmps106
 go_wp2_with fail
 refine m.mono ?_;rintro e w' ⟨rfl,E⟩
 go_wp2_with fail
 all_goals go_ret
 all_goals exact⟨by simp,E⟩
theorem conPTe (p:Te->Bool) (S:Nat->Prop) (w:World) (xs:List (Te)) (v:Value) (d:RSl RTe 2 S w xs [v]) (g:Nat) (lb:Array Value)
  (D:∀args w,(callFunc g args).run Tryz.prog w = .ok (.enter g args) w)
  (A:∀x∈xs,∀cs W,Ext w W->RTe S W x cs->Calls Tryz.prog g (#[.agg cs.toArray]++lb) W λe w'=>e = .returned (.bool (p x))/\Ext W w') :
  Calls Tryz.prog 106 #[v,.func (.func g) #[] lb] w λe w'=>e = .returned (.bool (xs.any p))/\Ext w w' :=
 (conFTe (λ(_:Unit) W=>Ext w W) (λs x=>(p x,s)) S w xs v d g lb D (λ_ _ h=>Ext.kp h) (λx d s cs W u hr=>(A x d cs W u hr).mono λe w' ⟨m,c⟩=>⟨m,u.trans' c⟩) () (Ext.refl w)).mono
  λe w' ⟨m,c⟩=>⟨by rw[m,qkc],c⟩
theorem idxPTe (p:Te->Bool) (S:Nat->Prop) (w:World) (xs:List (Te)) (v:Value) (d:RSl RTe 2 S w xs [v]) (g:Nat) (lb:Array Value)
  (D:∀args w,(callFunc g args).run Tryz.prog w = .ok (.enter g args) w)
  (A:∀x∈xs,∀cs W,Ext w W->RTe S W x cs->Calls Tryz.prog g (#[.agg cs.toArray]++lb) W λe w'=>e = .returned (.bool (p x))/\Ext W w') :
  Calls Tryz.prog 164 #[v,.func (.func g) #[] lb] w λe w'=>e = .returned (.int .i64 (qbd p xs))/\Ext w w' :=
 (idxFTe (λ(_:Unit) W=>Ext w W) (λs x=>(p x,s)) S w xs v d g lb D (λ_ _ h=>Ext.kp h) (λx d s cs W u hr=>(A x d cs W u hr).mono λe w' ⟨m,c⟩=>⟨m,u.trans' c⟩) () (Ext.refl w)).mono
  λe w' ⟨m,c⟩=>⟨by rw[m,qjj],c⟩
end
section
/- suite.fails,Fails: walked. -/
open Go.Shelf
def vmF (n:Int):Option Value:=if n=1 then some (.func (.func 168) #[] #[]) else if n=2 then some (.func (.func 170) #[] #[]) else if n=3 then some (.func (.func 171) #[] #[]) else none
theorem VM.isMap {W:World} {m:Nat} (h:W.heap[m]? = some (.map VM 3)):IsMap (Value.int .i64) W m vmF :=
 ⟨VM,3,[1,2,3],h,rfl,by decide,λi hi=>by
  match i,hi with
  | 0,_=>rfl
  | 1,_=>rfl
  | 2,_=>rfl,λa c=>by
  simp only[List.mem_cons,List.not_mem_nil,or_false,not_or]at c
  rw[vmF,if_neg c.1,if_neg c.2.1,if_neg c.2.2]⟩
theorem infoFn:(Tryz.prog.info? 138).map (·.zero)=some (some .nilFunc):=by kernel_rfl
theorem VM.two {W:World} {m:Nat} (h:W.heap[m]? = some (.map VM 3)):(Instr.lookup 136 (.map (some m)) (.int .i64 2) false).run Tryz.prog W = .ok (.func (.func 170) #[] #[]) W :=
 (VM.isMap h).lookup (P:=Tryz.prog) Tryz.underlying136 qio (z:=.nilFunc) (by
  obtain⟨i,hi,c⟩:=Option.map_eq_some_iff.1 infoFn
  simp[zeroValue,typeInfo,hi,c]) 2
theorem eg165:∀args w,(callFunc 165 args).run Tryz.prog w = .ok (.enter 165 args) w:=enters_of Tryz.func165 (by kernel_rfl) rfl
theorem eg170:∀args w,(callFunc 170 args).run Tryz.prog w = .ok (.enter 170 args) w:=enters_of Tryz.func170 (by kernel_rfl) rfl
def NTe (t:Te):Prop:=t.tr.length<=4611686018427387903/\t.mu.length<=4611686018427387903
theorem fails1_c (S:Nat->Prop) (s:Sy) (F:qah s) (g:Nat) (t:Te) (cs:List Value) (I G:Nat) (w:World) (hS:qaz S w g s) (J:RTe S w t cs) (hn:NTe t)
  (U:w.cell? ⟨I,0,none⟩=some (.func (.func 170) #[] #[])) (M:w.cell? ⟨G,0,none⟩=some (.pointer (some ⟨g,0,none⟩))) :
  Calls Tryz.prog 165 #[.agg cs.toArray,.pointer (some ⟨I,0,none⟩),.pointer (some ⟨G,0,none⟩)] w λe w'=>e = .returned (.bool (qbz s t))/\Ext w w':=by
 obtain⟨v,u,rfl,m,E⟩:=J;have d:=λW (D:Ext w W)=>fail_c S s F g t v u W (hS.bel D) (qaa.good.bel m D) (qaa.good.bel E D) hn.1 hn.2
 have X:=eg170;obtain⟨A,c,rfl,_,_⟩:=m.val;obtain⟨V,Y,rfl,_,_⟩:=E.val;have L:=World.block_lt_of_cell? w _ U;have O:=World.block_lt_of_cell? w _ M;clear hS m E hn
 go_enter Tryz.func165,Tryz.ntmps165
 go_wp2_with fail
 refine(d _ bel).mono ?_;rintro e w1 ⟨rfl,N⟩
 go_wp2_with fail
 go_ret;exact⟨rfl,bel⟩
theorem qoj (S:Nat->Prop) (s:Sy) (L:qah s) (g:Nat) (ts:List Te) (v:Value) (w:World) (hS:qaz S w g s) (F:RSl RTe 2 S w ts [v]) (hn:∀t∈ts,NTe t) :
  Calls Tryz.prog 100 #[.pointer (some ⟨g,0,none⟩),v] w λe w'=>e = .returned (.int .i64 (qbd (qbz s) ts))/\Ext w w':=by
 have G:=qv1
 have u:=λI E W (M:Ext w W) (D:W.cell? ⟨I,0,none⟩=some (.func (.func 170) #[] #[])) (O:W.cell? ⟨E,0,none⟩=some (.pointer (some ⟨g,0,none⟩)))=>idxPTe (qbz s) S W ts v ((RSl.good RTe.good).bel F M) 165 #[.pointer (some ⟨I,0,none⟩),.pointer (some ⟨E,0,none⟩)] eg165
  (λx hx cs W' d hr=>fails1_c S s L g x cs I E W' (hS.bel (M.trans' d)) hr (hn x hx) (Ext.keep d D) (Ext.keep d O))
 obtain⟨A,c,rfl,hc,ab⟩:=F.val;clear F hS hn
 go_enter Tryz.func100,Tryz.ntmps100
 go_wp2_with fail
 refine(G _).mono ?_;rintro e N ⟨m,rfl,U,Y,D⟩;have X:=D.cells;have J:=D.size;have hz:w.heap.size<N.heap.size:=by simp at J;omega
 have V:=VM.two U;have aa:Ext w N:=bel;clear U
 go_wp2_with fail
 refine(u _ _ _ bel (by go_simp) (by go_simp)).mono ?_;rintro e w2 ⟨rfl,O⟩
 go_wp2_with fail
 go_ret;exact⟨rfl,bel⟩
open Classical in
theorem qdh {s:Sy} {ts:List Te} (h:qal s ts=0):qah s/\ts.length<=4000/\∀t∈ts,qbj t=true:=by
 unfold qal at h
 split at h
 .rename_i c;unfold qd3 at h
  split at h
  .rename_i m
   split at h
   .rename_i d;exact⟨c,m,List.all_eq_true.1 d⟩
   cases h
  cases h
 cases h
theorem NTe.of_test {t:Te} (h:qbj t=true):NTe t:=by
 simp[qbj,qbk,qbt]at h;exact⟨by omega,by omega⟩
theorem qmp {α:Type} (p:α->Bool):∀(xs:List α),qbd p xs<xs.length /\ -1<=qbd p xs
 | []=>by simp[qbd]
 | x :: xs=>by
  have h:=qmp p xs;rw[qbd]
  split
  .simp
  split <;> simp only[List.length_cons] <;> omega
end
end Go.Proofs.YtegenalcheooeaaGreat
