/- Of the proof of a law of the suites: LKey, LArcs1, LArcs2, LArcs3. -/
import Derived.Test.YtegenalcheooeaaGreatB01
import Derived.Test.YtegenalcheooeaaGreatB04
import Derived.Test.YtegenalcheooeaaGreatB10
import Derived.Test.YtegenalcheooeaaGreatB11
import Derived.Laws.Cover3
set_option linter.unusedSectionVars false
set_option linter.unusedSimpArgs false
set_option linter.unusedVariables false
namespace Go.Proofs.YtegenalcheooeaaGreat
open Go.RowKit
attribute [local go_sem] cell?_exto
set_option maxHeartbeats 16000000
set_option maxRecDepth 100000
section
/- lts.key: walked. -/
open Go.Shelf
def RBy:Rdr UInt8:=λ_ _ b cs=>cs=[.int .u8 (b.toNat:Int)]
theorem RBy.good:Good RBy 1:={
 len:=by rintro S w x cs rfl;rfl
 one:=by rintro S w x cs rfl u c;simp at c;subst c;rfl
 move:=λh _=>h
 mono:=λh _=>h }
theorem info5b:(Tryz.prog.info? 5).map (λi=>(i.zero,i.size,i.bytes))=some (some (.int .u8 0),1,1):=by kernel_rfl
def byCs (bs:List UInt8):List Value:=bs.map λb=>.int .u8 (b.toNat:Int)
theorem RBy.cells {S:Nat->Prop} {w:World}:∀{c:List UInt8} {cs:List Value},Flat RBy 1 S w c cs->cs=byCs c
 | [],cs,h=>h
 | b :: c,cs,⟨c1,c2,h1,h2,h3,h4⟩=>by
  rw[h1,show c1=_ from h3,RBy.cells h4];rfl
theorem RBy.flat {S:Nat->Prop} {w:World}:∀c:List UInt8,Flat RBy 1 S w c (byCs c)
 | []=>rfl
 | b :: c=>⟨[.int .u8 (b.toNat:Int)],_,rfl,rfl,rfl,RBy.flat c⟩
theorem Bt.join {Z:Nat->Prop} {a b c:World} (h:Bt Z a b) (k:Bt (λq=>Z q\/a.heap.size<=q) b c):Bt Z a c :=
 ⟨k.os.trans h.os,k.tape.trans h.tape,k.output.trans h.output,Nat.le_trans h.size k.size,λi hi d=>(k.block i (Nat.lt_of_lt_of_le hi h.size) (by rintro(h | h);exact d h;omega)).trans (h.block i hi d)⟩
structure ByI (Bb base:Nat) (v0:Value) (W0:World) (xs:List UInt8) (W:World):Prop where
 bt:Bt (λq=>q=Bb\/v0.ownBlock=some q) W0 W
 row:∃v,Boxed W Bb 306 v/\qab RBy 1 5 base (λ_=>False) W xs v/\(v.ownBlock=v0.ownBlock\/∀q,v.ownBlock=some q->W0.heap.size<=q)
theorem ByI.ext {c base:Nat} {m:Value} {W0 W W':World} {xs:List UInt8} (h:ByI c base m W0 xs W) (d:Ext W W'):ByI c base m W0 xs W':=by
 obtain⟨v,u,A,D⟩:=h.row;exact⟨h.bt.ext d,v,(d.block c u.lt).trans u,A.ext RBy.good d,D⟩
theorem ByI.push {c base:Nat} {L v d:Value} {W0 W w':World} {xs ys:List UInt8} {o:Obj} (h:ByI c base L W0 xs W) (V:Boxed W c 306 v) (U:qab RBy 1 5 base (λ_=>False) W xs v) (D:v.ownBlock=L.ownBlock\/∀q,v.ownBlock=some q->W0.heap.size<=q)
  (A:w'.ownsRow base 5 1 d (xs.length+ys.length) (byCs (xs++ys))) (hg:(W.alloc o).grownBy w' v.ownBlock) (u:d.ownBlock=v.ownBlock\/d.ownBlock=some (W.heap.size+1)) (M:L.ownBlock≠some c) (X:c<W0.heap.size) :
  Boxed w' c 306 v/\ByI c base L W0 (xs++ys) (w'.setCell ⟨c,0,none⟩ d):=by
 have N:=V.lt;have Y:=h.bt.size
 have G:v.ownBlock≠some c:=λe=>by
  rcases D with h | h
  .exact M (h ▸ e)
  have:=h _ e;omega
 have J:d.ownBlock≠some c:=λe=>by
  rcases u with h | h
  .exact G (h ▸ e)
  rw[h]at e;injection e with e;omega
 have E:Bt (λq=>v.ownBlock=some q) W w':=((Ext.refl W).alloc o).bt.trans ((Bt.of_grown hg).mono λq _ h=>h.symm);have F:Boxed w' c 306 v:=(E.block c N G).trans V;have I:Bt (λq=>q=c) w' (w'.setCell ⟨c,0,none⟩ d):=Bt.set (Z:=λq=>q=c) (p:=⟨c,0,none⟩) (Bt.refl _ _) (.inr rfl) _;refine⟨F,⟨h.bt.join ((E.mono λq _ m=>?_).trans (I.mono λq _ m=>.inl (.inl m))),d,F.set d,⟨_,?_,RBy.flat _⟩,?_⟩⟩
 .rcases D with h | h
  .exact .inl (.inr (h ▸ m))
  exact .inr (h q m)
 .have:=A.kept (grownBy_setCell' w' c d) (.inr J);rw[List.length_append];exact this
 rcases u with O | O
 .rw [O];exact D
 right
 intro q m;rw[O]at m;injection m with m
 omega
theorem ByI.kp {d base:Nat} {u:Value} {W0 W:World} {xs:List UInt8} (h:ByI d base u W0 xs W) {K:Nat->Prop} (m:∀q,K q->q≠d/\u.ownBlock≠some q):Kp K W0 W:=h.bt.kp λq _ A c=>by
 rcases c with c | c
 .exact (m q A).1 c
 exact(m q A).2 c
theorem Kp.cell {K:Nat->Prop} {W W':World} (h:Kp K W W') {B o:Nat} {v:Value} (c:W.cell? ⟨B,o,none⟩=some v) (d:K B):W'.cell? ⟨B,o,none⟩=some v :=
 (World.cell?_of_block (a:=⟨B,o,none⟩) (h.block B (World.block_lt_of_cell? W _ c) d)).trans c
theorem qp1:∀a b:List Tm,qbu (a++b)=qbu a++qbu b
 | [],b=>by rw[qbu];rfl
 | x :: a,b=>by rw[List.cons_append,qbu,qbu,qp1 a b,List.append_assoc]
theorem qnm (l:List Tm) (k:Nat) (h:k<l.length):qbu (l.take (k+1))=qbu (l.take k)++qgb l[k]:=by
 rw[List.take_succ_eq_append_getElem h,qp1,qbu,qbu,List.append_nil]
theorem qsr (l:List Tm) (k:Nat):(qbu (l.take k)).length<=(qbu l).length:=by
 conv=>rhs;rw[<- List.take_append_drop k l,qp1,List.length_append]
 omega
def KeyC (t:Tm):Prop:=∀(K:Nat->Prop) (Bb Ba base:Nat) (v0:Value) (W0:World) (cs:List Value) (xs:List UInt8) (W:World),(∀q,K q->q≠Bb/\v0.ownBlock≠some q)->K Ba->base<=W0.heap.size->v0.ownBlock≠some Bb->Bb<W0.heap.size->RTm K W0 t cs ->
  W0.cell? ⟨Ba,0,none⟩=some (.func (.func 287) #[] #[.pointer (some ⟨Bb,0,none⟩),.pointer (some ⟨Ba,0,none⟩)])->ByI Bb base v0 W0 xs W->xs.length+(qgb t).length<=100000000000 ->
  Calls Tryz.prog 287 #[.agg cs.toArray,.pointer (some ⟨Bb,0,none⟩),.pointer (some ⟨Ba,0,none⟩)] W λe w'=>e = .returned (.tuple #[])/\ByI Bb base v0 W0 (xs++qgb t) w'
theorem key_of (t:Tm) (aJ:qbn t=true) (ht:∀x∈t.l,KeyC x):KeyC t:=by
 intro K Bb Ba base v0 W0 cs xs w hK ao ay ap ag hx ak M V;have hn:=qnd aJ;obtain⟨i1,i2,v,rfl,hv⟩:=(qa6 ..).1 hx;obtain⟨A,c,rfl,hc,aM⟩:=hv.val;obtain⟨vb,L,m,aw⟩:=M.row;have aL:=M.bt.size;have q0:=L.cell;have qf:=L.frozen;have aK:=L.lt;obtain⟨news,X,hF⟩:=id m;obtain rfl:=RBy.cells hF;obtain⟨i5,aC,ai⟩:=Option.map_eq_some_iff.1 info5b;simp only[Prod.mk.injEq]at ai;obtain⟨aF,aA,aD⟩:=ai;have y1:IntKind.u8.wrap t.n=t.n:=IntWalk.u8_in _ ⟨by omega,by omega⟩;have y2:IntKind.u8.wrap (t.l.length:Int)=t.l.length:=IntWalk.u8_in _ ⟨by omega,by omega⟩;have ab:=(X.alloc (.cells #[.int .i64 t.k,.int .i64 t.n,.slice A t.l.length c] 159)).alloc (.cells #[.int .u8 t.n,.int .u8 t.l.length] 5)
 have aE:∀j u,[Value.int .u8 t.n,.int .u8 t.l.length][j]? = some u->((w.alloc (.cells #[.int .i64 t.k,.int .i64 t.n,.slice A t.l.length c] 159)).alloc (.cells #[.int .u8 t.n,.int .u8 t.l.length] 5)).cell? ((⟨w.heap.size+1,0,none⟩:Addr).add j)=some u:=by
  have:=qe7 (w.alloc (.cells #[.int .i64 t.k,.int .i64 t.n,.slice A t.l.length c] 159)) #[.int .u8 t.n,.int .u8 t.l.length] 5
  rwa [World.size_alloc]at this
 obtain⟨ys,O⟩:∃ys,ys=[UInt8.ofNat t.n.toNat,UInt8.ofNat t.l.length]:=⟨_,rfl⟩
 have aj:byCs (xs++ys)=byCs xs++[.int .u8 t.n,.int .u8 t.l.length]:=by
  have e1:=byte_of hn.1 hn.2.1;have e2:=byte_of (n:=(t.l.length:Int)) (by omega) (by omega);rw[Int.toNat_natCast]at e2;rw[O,byCs,List.map_append,<- byCs,List.map_cons,List.map_cons,List.map_nil,e1,e2]
 have ac:qgb t=ys++qbu t.l:=by rw[O,keyTm_eq];rfl
 have ad:ys.length=2:=by rw[O];rfl
 have aO:xs.length<=100000000000:=by omega
 have aq:=M.ext ((Ext.refl w).alloc (.cells #[.int .i64 t.k,.int .i64 t.n,.slice A t.l.length c] 159));have Y:Boxed (w.alloc (.cells #[.int .i64 t.k,.int .i64 t.n,.slice A t.l.length c] 159)) Bb 306 vb:=L.alloc _;have G:=m.ext RBy.good ((Ext.refl w).alloc (.cells #[.int .i64 t.k,.int .i64 t.n,.slice A t.l.length c] 159))
 have I:∀(v8:Value) (F:World),F.ownsRow base 5 1 v8 (xs.length+2) (byCs xs++[.int .u8 t.n,.int .u8 t.l.length])->((w.alloc (.cells #[.int .i64 t.k,.int .i64 t.n,.slice A t.l.length c] 159)).alloc (.cells #[.int .u8 t.n,.int .u8 t.l.length] 5)).grownBy F vb.ownBlock ->
   (v8.ownBlock=vb.ownBlock\/v8.ownBlock=some ((w.alloc (.cells #[.int .i64 t.k,.int .i64 t.n,.slice A t.l.length c] 159)).alloc (.cells #[.int .u8 t.n,.int .u8 t.l.length] 5)).heap.size)->Boxed F Bb 306 vb/\ByI Bb base v0 W0 (xs++ys) (F.setCell ⟨Bb,0,none⟩ v8):=λv8 F h1 h2 h3 =>
  aq.push Y G aw (by rw[ad,aj];exact h1) h2 (by rw[World.size_alloc]at h3;exact h3) ap ag
 have aH:vb.ownBlock≠some w.heap.size:=λe=>by have:=(m.own_lt e).2;omega
 have aG:Hid (∀F:World,((w.alloc (.cells #[.int .i64 t.k,.int .i64 t.n,.slice A t.l.length c] 159)).alloc (.cells #[.int .u8 t.n,.int .u8 t.l.length] 5)).grownBy F vb.ownBlock->F.cell? ⟨w.heap.size,2,none⟩=some (.slice A t.l.length c)):=λF hg =>
  (World.cell?_of_block (a:=⟨w.heap.size,2,none⟩) (hg.block w.heap.size (by simp;omega) λe=>aH e.symm)).trans (by go_simp)
 have HP:=Hd I;have HV:=Hd hv;have HT:=Hd ht;have ax:=Hd ac;have HL:Hid (xs.length+2+(qbu t.l).length<=100000000000):=by show _<=_;rw[ac,List.length_append,ad]at V;omega
 clear hx hv ht M aq L Y m G hF I aj O ac aw X V
 go_enter Tryz.func287,Tryz.ntmps287
 go_wp2_with (at_builtin;refine wpList_append_own_at _ rfl _ _ 306 rfl base 5 i5 (.int .u8 0) 1 1 Tryz.underlying306 aC aF aA aD rfl (by decide) _ _ _ rfl ab ⟨w.heap.size+1,0,none⟩ 2 2 [.int .u8 t.n,.int .u8 t.l.length] rfl rfl aE (by simp[Value.oneCell']) (by unfold maxLen;omega) (by omega) (by simp;omega) ?_;intro v8 F J D aB av;obtain⟨aa,an⟩:=HP.out v8 F J D av;obtain⟨g8,c8,rfl⟩:=ownsRow_succ J;have q8:=aa.cell;have f8:=aa.frozen;have x2:=aG.out F D;have aI:=Hd an;clear an aa)
 go_loopw [19] (λvi wr=>∃k:Nat,k<=t.l.length/\vi = .int .i64 k/\Hid (ByI Bb base v0 W0 (xs++ys++qbu (t.l.take k)) wr)) (λvi _=>t.l.length-(intOf vi).toNat)
 case atStart=>exact⟨0,Nat.zero_le _,rfl,by show ByI _ _ _ _ _ _;rw[List.take_zero,qbu,List.append_nil];exact aI.out⟩
 obtain⟨k,hk,rfl,M⟩:=hrel;have E:=M.out.kp hK
 by_cases N:k<t.l.length
 .obtain ⟨b,aN,cs,rfl,hb,af,hl,hr,d⟩:=HV.out.get k N;obtain⟨j1,j2,u,rfl,hu⟩:=(qa6 ..).1 hr;have a0:=E.cell (d.get 0 _) af;have a1:=E.cell (d.get 1 _) af;have a2:=E.cell (d.get 2 _) af;simp only[Nat.add_zero]at a0;have ae:=E.cell ak ao;have az:=World.block_lt_of_cell? wr ⟨Ba,0,none⟩ ae;have am:=qsr t.l (k+1);rw[qnm t.l k N,List.length_append]at am;have U:=λW (hW:Ext wr W)=>HT.out _ (List.getElem_mem N) K Bb Ba base v0 W0 _ _ W hK ao ay ap ag hr ak (M.out.ext hW) (by have:=HL.out;rw[List.length_append,List.length_append,ad];omega)
  obtain⟨Au,cu,rfl,_,_⟩:=hu.val;have au:=Hd (qnm t.l k N);obtain⟨x,al⟩:=nm (t.l[k]);rw[al]at a0 a1 a2 U au;have gB:=Lib.cell?_alloc_some (.cells #[.int .i64 x.k,.int .i64 x.n,.slice Au x.l.length cu] 159) ae;clear hr hu hl d am al E ae
  go_wp2_with fail
  refine(U _ bel).mono ?_;rintro e w5 ⟨rfl,h5⟩;have H5:=Hd h5;clear h5
  go_wp2_with fail
  go_roundw
  case rel=>exact⟨k+1,by omega,by go_num,by show ByI _ _ _ _ _ _;rw[au.out,<- List.append_assoc];exact H5.out⟩
  simp[intOf];omega
 have ah:t.l.take k=t.l:=List.take_of_length_le (by omega);rw[ah]at M;clear ah E
 go_wp2_with fail
 go_end0
 rw[ax.out,<- List.append_assoc];exact⟨rfl,M.out⟩
theorem keyT_c:∀t,qbn t=true->KeyC t:=Tm.ind λt ih h=>key_of t h λx c=>ih x c ((qnd h).2.2.2 x c)
theorem key_c (S:Nat->Prop) (x:Lb) (aH:qa0 x=true) (aI:x.size<=1000000000) (cs:List Value) (w:World) (hx:RLb S w x cs) :
  Calls Tryz.prog 272 #[.agg cs.toArray] w λe w'=>e = .returned (.string (qer x))/\Ext w w':=by
 have J:=qnv aH;obtain⟨i1,v,rfl,hv⟩:=id hx;obtain⟨A,c,rfl,hc,aL⟩:=hv.val;have ao:qar (λq=>q<w.heap.size) w x.v [.slice A x.v.length c]:=qar.good.mono hv λb hb _=>hb
 have HV:=Hd ao;have HT:Hid (∀t∈x.v,KeyC t):=λt ht=>keyT_c t (J.2.2.2 t ht)
 have aM:=J.1;have aK:=J.2.1;have aJ:=J.2.2.1;have I:(qbu x.v).length=2*x.size:=qpl x.v;have y0:IntKind.i64.wrap (x.g+4)=x.g+4:=IntWalk.i64_in _ (by omega);have y1:IntKind.u8.wrap (x.g+4)=x.g+4:=IntWalk.u8_in _ ⟨by omega,by omega⟩;have y2:IntKind.u8.wrap (x.v.length:Int)=x.v.length:=IntWalk.u8_in _ ⟨by omega,by omega⟩;clear hx hv ao J
 go_enter Tryz.func272,Tryz.ntmps272
 go_wp2_with fail
 obtain⟨W0,m⟩:=nm ((((w.alloc (.cells #[.int .i64 x.g,.slice A x.v.length c] 61)).alloc (.cells #[.int .u8 (x.g+4),.int .u8 x.v.length] 5)).alloc (.cells #[.slice (some ⟨w.heap.size+1,0,none⟩) 2 2] 306)).alloc (.cells #[.func (.func 287) #[] #[.pointer (some ⟨w.heap.size+1+1,0,none⟩),.pointer (some ⟨w.heap.size+1+1+1,0,none⟩)]] 307));have ac:Ext w W0:=by rw[<- m];exact((((Ext.refl w).alloc _).alloc _).alloc _).alloc _
 have aD:W0.heap.size=w.heap.size+4:=by rw[<- m];simp
 obtain⟨ys,U⟩:∃ys,ys=[UInt8.ofNat (x.g+4).toNat,UInt8.ofNat x.v.length]:=⟨_,rfl⟩
 have M:ys.length=2:=by rw[U];rfl
 have ak:keyLb x=ys++qbu x.v:=by rw[U];rfl
 have aa:byCs ys=[.int .u8 (x.g+4),.int .u8 x.v.length]:=by
  have e1:=byte_of (n:=x.g+4) (by omega) (by omega);have e2:=byte_of (n:=(x.v.length:Int)) (by omega) (by omega);rw[Int.toNat_natCast]at e2;rw[U,byCs,List.map_cons,List.map_cons,List.map_nil,e1,e2]
 obtain⟨W1,L⟩:=nm (w.alloc (.cells #[.int .i64 x.g,.slice A x.v.length c] 61));have ae:W1.heap.size=w.heap.size+1:=by rw[<- L,World.size_alloc]
 obtain⟨W2,F⟩:=nm (W1.alloc (.cells #[.int .u8 (x.g+4),.int .u8 x.v.length] 5));have ad:W2.heap.size=w.heap.size+1+1:=by rw[<- F,World.size_alloc,ae]
 obtain⟨W3,D⟩:=nm (W2.alloc (.cells #[.slice (some ⟨w.heap.size+1,0,none⟩) 2 2] 306));have ah:W3.heap.size=w.heap.size+1+1+1:=by rw[<- D,World.size_alloc,ad]
 have b1:W0.heap[w.heap.size+1]? = some (.cells #[.int .u8 (x.g+4),.int .u8 x.v.length] 5 (0,0)):=by
  rw[<- m,L,F,D,Below.heap_alloc _ _ _ (by omega),<- D,Below.heap_alloc _ _ _ (by omega),<- F,<- ae];exact heap_alloc_new _ _
 have b2:Boxed W0 (w.heap.size+1+1) 306 (.slice (some ⟨w.heap.size+1,0,none⟩) 2 2):=by
  show W0.heap[_]? = _;rw[<- m,L,F,D,Below.heap_alloc _ _ _ (by omega),<- D,<- ad];exact heap_alloc_new _ _
 have b3:W0.cell? ⟨w.heap.size+1+1+1,0,none⟩=some (.func (.func 287) #[] #[.pointer (some ⟨w.heap.size+1+1,0,none⟩),.pointer (some ⟨w.heap.size+1+1+1,0,none⟩)]):=by
  rw[<- m,L,F,D,<- ah,World.cell?_alloc_new];rfl
 clear ae ad ah L F D;clear W1 W2 W3
 have Y:ByI (w.heap.size+1+1) w.heap.size (.slice (some ⟨w.heap.size+1,0,none⟩) 2 2) W0 ys W0 :=
  ⟨Bt.refl _ _,_,b2,⟨_,⟨by rw[M,aa];rfl,.inr ⟨w.heap.size+1,2,_,by rw[M],by omega,b1,by omega,by unfold maxLen;omega,rfl,by rw[M,aa];rfl⟩⟩,RBy.flat _⟩,.inl rfl⟩
 rw[m];clear m b1 b2 U aa;obtain⟨Ba,ab⟩:=nm (w.heap.size+1+1+1);obtain⟨V,O⟩:=nm (w.heap.size+1+1);rw[ab,O];rw[ab,O]at b3;rw[O]at Y
 have hK:∀q,(q<w.heap.size\/q=Ba)->q≠V/\(Value.slice (some ⟨w.heap.size+1,0,none⟩) 2 2).ownBlock≠some q:=by
  intro q hq;refine⟨by omega,?_⟩;intro e;simp only[Value.ownBlock,Option.some.injEq]at e;omega
 have av:(Value.slice (some ⟨w.heap.size+1,0,none⟩) 2 2).ownBlock≠some V:=by
  intro e;simp only[Value.ownBlock,Option.some.injEq]at e;omega
 have aw:=Hd hK;have al:=Hd av;have aj:=Hd ac;have hL:Hid (V<W0.heap.size/\w.heap.size<=W0.heap.size):=by show _/\_;omega
 have aF:Hid (qar (λq=>q<w.heap.size\/q=Ba) W0 x.v [.slice A x.v.length c]):=qar.good.mono (qar.good.move HV.out ac.kp) λb _ hb=>.inl hb
 have HB:=Hd Y;have aC:=Hd ak;have am:=Hd b3;have aE:=Hd I;have aA:Hid (w.heap.size<V):=by show _<_;omega
 clear ab O hK av ac aD Y ak b3 HV I
 go_loopw [20] (λvi wr=>∃k:Nat,k<=x.v.length/\vi = .int .i64 k/\Hid (ByI V w.heap.size (.slice (some ⟨w.heap.size+1,0,none⟩) 2 2) W0 (ys++qbu (x.v.take k)) wr)) (λvi _=>x.v.length-(intOf vi).toNat)
 case atStart=>exact⟨0,Nat.zero_le _,rfl,by show ByI _ _ _ _ _ _;rw[List.take_zero,qbu,List.append_nil];exact HB.out⟩
 obtain⟨k,hk,rfl,hI⟩:=hrel;have G:=hI.out.kp aw.out
 by_cases N:k<x.v.length
 .obtain ⟨b,aN,cs,rfl,hb,ag,hl,hr,d⟩:=aF.out.get k N;obtain⟨j1,j2,u,rfl,hu⟩:=(qa6 ..).1 hr;have a0:=G.cell (d.get 0 _) ag;have a1:=G.cell (d.get 1 _) ag;have a2:=G.cell (d.get 2 _) ag;simp only[Nat.add_zero]at a0;have ay:=G.cell am.out (.inr rfl);have au:=qsr x.v (k+1);rw[qnm x.v k N,List.length_append]at au;have X:=λW (hW:Ext wr W)=>HT.out _ (List.getElem_mem N) _ V Ba w.heap.size _ W0 _ _ W aw.out (.inr rfl) hL.out.2 al.out hL.out.1 hr am.out (hI.out.ext hW) (by have:=aE.out;rw[List.length_append,M];omega)
  obtain⟨Au,cu,rfl,_,_⟩:=hu.val;have ax:=Hd (qnm x.v k N);obtain⟨y,an⟩:=nm (x.v[k]);rw[an]at a0 a1 a2 X ax;have gB:=Lib.cell?_alloc_some (.cells #[.int .i64 y.k,.int .i64 y.n,.slice Au y.l.length cu] 159) ay;clear hr hu hl d au an G ay
  go_wp2_with fail
  refine(X _ bel).mono ?_;rintro e w5 ⟨rfl,h5⟩;have H5:=Hd h5;clear h5
  go_wp2_with fail
  go_roundw
  case rel=>exact⟨k+1,by omega,by go_num,by show ByI _ _ _ _ _ _;rw[ax.out,<- List.append_assoc];exact H5.out⟩
  simp[intOf];omega
 have I:x.v.take k=x.v:=List.take_of_length_le (by omega);rw[I]at hI;clear I G;obtain⟨vb,aq,ap,aG⟩:=hI.out.row;have q0:=aq.cell;obtain⟨news,E,hF⟩:=ap;obtain rfl:=RBy.cells hF;have af:(ys++qbu x.v).length=(qbu x.v).length+1+1:=by rw[List.length_append,M];omega
 rw[af]at E;obtain⟨g,c9,rfl⟩:=ownsRow_succ E;have aB:=run_convert_bytes_back (P:=Tryz.prog) wr 306 9 5 ⟨g,0,none⟩ c9 (ys++qbu x.v) Tryz.underlying306 Tryz.underlying5 Tryz.underlying9 (λj hj=>E.cells rfl j _ (by rw[byCs,List.getElem?_map,List.getElem?_eq_getElem hj];rfl));rw[af,<- aC.out]at aB
 have ai:Ext w wr:=Bt.new aj.out hI.out.bt λq _ hq=>by
  have h1:=hL.out;have h2:=aA.out
  rcases hq with hq | hq
  .omega
  simp only[Value.ownBlock,Option.some.injEq]at hq;omega
 have az:=Hd ai;clear ai aG E hF af aq
 go_wp2_with fail
 go_ret;exact⟨rfl,az.out⟩
end
section
open Go.Shelf
theorem IsMap.lookup2 {κ:Type} [DecidableEq κ] {P:Program} {K:κ->Value} {W:World} {m:Nat} {f:κ->Option Value} (h:IsMap K W m f) {t G J:TypeId} (F:P.underlying t=some (.map G J)) (V:KeyOk P G K) {z:Value} (X:(zeroValue J).run P W = .ok z W) (a:κ) :
  (Instr.lookup t (.map (some m)) (K a) true).run P W = .ok (.tuple #[(f a).getD z,.bool (f a).isSome]) W:=by
 obtain⟨E,D,c,O,N,h3,Y,U⟩:=h;obtain⟨d,M,hs,L⟩:=V.kind;have hf:=qkv hs a E.toList c 0 N;have I:E.toList.length=c.length:=by have:=congrArg List.length N;simpa using this
 unfold Instr.lookup Instr.findKey
 by_cases A:a∈c
 .rw [dif_pos A]at hf;have hi:c.idxOf a<c.length:=List.idxOf_lt_length_of_mem A;have u:=Y _ hi;rw[List.getElem_idxOf]at u;rw[List.getElem?_eq_getElem (by omega)]at u hf;simp only[Option.map_some]at u hf;simp[run_underlying F,run_underlying M,getObj,Sem.run,O,L,hf,u]
 rw[dif_neg A]at hf;rw[U a A];simp[run_underlying F,run_underlying M,getObj,Sem.run,O,L,hf,X]
def qbx (ls:List Lb) (x:Lb):List Lb:=if x∈ls then ls else ls++[x]
def mapF (ls:List Lb) (k:ByteArray):Option Value:=(ls.findIdx? λy=>decide (qer y=k)).map λi=>.int .i64 (i:Int)
theorem qp0:∀(c:List Lb) (x:Lb),qa0 x=true->(∀y∈c,qa0 y=true)->c.findIdx? (λy=>decide (qer y=qer x))=if x∈c then some (c.idxOf x) else none
 | [],x,_,_=>by simp
 | y :: c,x,hx,h=>by
  have ih:=qp0 c x hx λz D=>h z (by simp[D])
  have hy:=h y (by simp);rw[List.findIdx?_cons,ih]
  by_cases e:y=x
  .subst e
   simp
  have u:decide (qer y=qer x)=false:=decide_eq_false λA=>e (keyS_inj hy hx A)
  rw[u];have m:(y == x)=false:=beq_eq_false_iff_ne.2 e
  by_cases d:x∈c
  .simp [d,List.idxOf_cons,m]
  have:¬ x∈y :: c:=by simp[d,Ne.symm e]
  simp[d,this]
theorem qtx (c:List Lb) (x:Lb) (d:qa0 x=true) (h:∀y∈c,qa0 y=true):mapF c (qer x)=if x∈c then some (.int .i64 (c.idxOf x:Int)) else none:=by
 unfold mapF;rw[qp0 c x d h]
 split <;> rfl
theorem qr6 (c:List Lb) (x:Lb) (d:qa0 x=true) (h:∀y∈c,qa0 y=true) (hn:x∉c):(λb=>if b=qer x then some (Value.int .i64 (c.length:Int)) else mapF c b)=mapF (c++[x]):=by
 funext b
 unfold mapF;rw[List.findIdx?_append]
 by_cases e:b=qer x
 .subst e;rw[if_pos rfl,qp0 c x d h,if_neg hn]
  simp
 rw[if_neg e];have:([x].findIdx? λy=>decide (qer y=b))=none:=by simp[Ne.symm e]
 rw[this]
 simp
theorem mapF_nil:mapF []=λ_=>none:=rfl
structure qdg (base B:Nat) (ls:List Lb) (es:List Ed) (ve:Value) (W:World):Prop where
 lt:B<base
 ex:∃(mo:Option Nat) (vl:Value) (T:Nat->Prop),qaf W B 235 [.map mo,vl,ve]/\qab RLb 2 61 base T W ls vl/\qab REd 3 88 base (λ_=>False) W es ve/\(∀q,T q->base<=q/\mo≠some q/\ve.ownBlock≠some q)/\(∀q,vl.ownBlock=some q->ve.ownBlock≠some q) /\
  ((mo=none/\ls=[])\/∃m,mo=some m/\base<=m/\IsMap Value.string W m (mapF ls))
theorem qdg.ext {base B:Nat} {A:List Lb} {D:List Ed} {d:Value} {W W':World} (h:qdg base B A D d W) (c:Ext W W'):qdg base B A D d W':=by
 obtain⟨G,M,T,N,F,I,J,L,E⟩:=h.ex;refine⟨h.lt,G,M,T,N.ext c,F.ext RLb.good c,I.ext REd.good c,J,L,E.imp id ?_⟩;rintro⟨m,rfl,O,u⟩;exact⟨m,rfl,O,u.move (c.block m u.lt)⟩
theorem addLb_len (c:List Lb) (x:Lb):(qbx c x).length<=c.length+1:=by unfold qbx;split <;> simp
theorem addLb_ok {c:List Lb} {x:Lb} (d:qa0 x=true) (h:∀y∈c,qa0 y=true):∀y∈qbx c x,qa0 y=true:=λy hy=>by
 unfold qbx at hy
 split at hy
 .exact h y hy
 rcases List.mem_append.1 hy with hy | hy
 .exact h y hy
 rw[List.mem_singleton.1 hy];exact d
theorem qdg.at {base B:Nat} {d:List Lb} {m:List Ed} {c:Value} {W:World} (h:qdg base B d m c W):W.cell? ⟨B,2,none⟩=some c:=by
 obtain⟨A,D,T,u,_⟩:=h.ex;exact u.cell 2 _
end
section
set_option linter.unnecessarySimpa false
open Go.Shelf
theorem qn2:(Tryz.prog.info? 61).map (λi=>(i.zero,i.size,i.bytes))=some (some (.agg #[.int .i64 0,.slice none 0 0]),2,32):=by kernel_rfl
theorem run_eql_map_nil (W:World) (c:Option Nat):(binOp .eql 233 (.map c) (.map none)).run Tryz.prog W = .ok (.bool c.isNone) W:=by
 have h:=run_equal_map_nil (P:=Tryz.prog) (w:=W) 233 _ _ c Tryz.underlying233;simp[binOp,h,go_sem]
structure qgf (base B m:Nat) (ls:List Lb) (es:List Ed) (vl ve:Value) (T:Nat->Prop) (W:World):Prop where
 box:qaf W B 235 [.map (some m),vl,ve]
 lab:qab RLb 2 61 base T W ls vl
 ed:qab REd 3 88 base (λ_=>False) W es ve
 T:∀q,T q->base<=q/\m≠q/\ve.ownBlock≠some q
 ap:∀q,vl.ownBlock=some q->ve.ownBlock≠some q
 mb:base<=m
 map:IsMap Value.string W m (mapF ls)
theorem qgf.ext {base B m:Nat} {u:List Lb} {A:List Ed} {D d:Value} {T:Nat->Prop} {W W':World} (h:qgf base B m u A D d T W) (c:Ext W W'):qgf base B m u A D d T W' :=
 ⟨h.box.ext c,h.lab.ext RLb.good c,h.ed.ext REd.good c,h.T,h.ap,h.mb,h.map.move (c.block m h.map.lt)⟩
theorem qgf.arcs {base B m:Nat} {u:List Lb} {A:List Ed} {D d:Value} {T:Nat->Prop} {W:World} (h:qgf base B m u A D d T W) (E:B<base):qdg base B u A d W :=
 ⟨E,some m,D,T,h.box,h.lab,h.ed,λq c=>⟨(h.T q c).1,λe=>(h.T q c).2.1 (by injection e),(h.T q c).2.2⟩,h.ap,(.inr ⟨m,rfl,h.mb,h.map⟩)⟩
theorem qkq {α:Type} {R:Rdr α} {k base:Nat} {e:TypeId} {T:Nat->Prop} {W:World} {xs:List α} {v:Value} {m:Nat} {u:Array MapEntry} {c:Nat} (h:qab R k e base T W xs v) (D:W.heap[m]? = some (.map u c)):v.ownBlock≠some m:=λd=>by
 obtain⟨news,A,_⟩:=h;have:=qut A d D
 cases this
theorem qgf.stored {base B m:Nat} {E:List Lb} {F:List Ed} {D A:Value} {T:Nat->Prop} {W W3:World} (h:qgf base B m E F D A T W) (N:B<base) (J:W.grownBy W3 (some m)) :
  qaf W3 B 235 [.map (some m),D,A]/\qab RLb 2 61 base T W3 E D/\qab REd 3 88 base (λ_=>False) W3 F A:=by
 have u:Bt (λq=>q=m) W W3:=(Bt.of_grown J).mono λq _ h=>by injection h
 obtain⟨L,c,O,G,_⟩:=h.map;have M:=h.mb;refine⟨h.box.bt u (by omega),h.lab.bt RLb.good u λb _ d=>⟨λI=>(h.T b I).2.1 d.symm,λe=>qkq h.lab G (d ▸ e)⟩,h.ed.bt REd.good u λb _ d=>⟨id,λe=>qkq h.ed G (d ▸ e)⟩⟩
theorem qgf.pushed {base B m:Nat} {ls:List Lb} {es:List Ed} {d G v8:Value} {T T':Nat->Prop} {W3 D u:World} {x:Lb} {n:Nat} (hB:B<base) (A:base<=m) (V:∀q,T' q->base<=q/\m≠q/\G.ownBlock≠some q) (L:∀q,d.ownBlock=some q->G.ownBlock≠some q)
  (E:qaf D B 235 [.map (some m),d,G]) (Y:qab REd 3 88 base (λ_=>False) D es G) (F:IsMap Value.string D m (mapF (ls++[x]))) (ab:∀q,d.ownBlock=some q->base<=q)
  (ho:qab RLb 2 61 base T' u (ls++[x]) v8) (X:Bt (λq=>d.ownBlock=some q) D u) (U:∀q,v8.ownBlock=some q->d.ownBlock=some q\/D.heap.size<=q) (aa:d.ownBlock≠some m) :
  u.cell? ⟨B,1,none⟩=some d/\u.frozen? ⟨B,1,none⟩=false/\qdg base B (ls++[x]) es G (u.setCell ⟨B,1,none⟩ v8)/\Bt (λq=>d.ownBlock=some q\/q=B) D (u.setCell ⟨B,1,none⟩ v8):=by
 have N:d.ownBlock≠some B:=λe=>by have:=ab _ e;omega
 have ac:=E.lt
 have M:v8.ownBlock≠some B:=λe=>by
  rcases U _ e with h | h
  .exact N h
  omega
 have J:=qi6 RLb.good 1 E ho X N M (λh=>by have:=(V _ h).1;omega);have c:Bt (λq=>d.ownBlock=some q\/q=B) D (u.setCell ⟨B,1,none⟩ v8):=J.2.2.2.2;refine⟨J.1.trans (E.cell 1 _),J.2.1,⟨hB,some m,v8,T',J.2.2.1,J.2.2.2.1,Y.bt REd.good c λb hb O=>⟨id,λe=>?_⟩,λq I=>⟨(V q I).1,λe=>(V q I).2.1 (by injection e),(V q I).2.2⟩,λq I e=>?_,.inr ⟨m,rfl,A,F.move (c.block m F.lt ?_)⟩⟩,c⟩
 .rcases O with O | O
  .exact L _ O e
  have:=(Y.own_lt (O ▸ e)).1;omega
 .rcases U q I with h | h
  .exact L q h e
  have:=(Y.own_lt e).2;omega
 rintro(h | h)
 .exact aa h
 omega
def NumPost (base lim B:Nat) (ls:List Lb) (es:List Ed) (ve:Value) (x:Lb) (w:World) (e:Ending) (w':World):Prop:=e = .returned (.int .i64 (ls.idxOf x:Int))/\qdg base B (qbx ls x) es ve w'/\Bt (λq=>q=B\/base<=q/\q<lim) w w'
theorem number_c (S:Nat->Prop) (base B:Nat) (d:List Lb) (es:List Ed) (ve:Value) (x:Lb) (ay:qa0 x=true) (au:∀y∈d,qa0 y=true) (bp:x.size<=1000000000) (aW:d.length<=1000000) (cs:List Value) (w0 w:World) (hS:∀q,S q->q<base/\q≠B) (bs:base<=w.heap.size)
  (aT:qdg base B d es ve w0) (an:Ext w0 w) (hx:RLb S w x cs):Calls Tryz.prog 245 #[.pointer (some ⟨B,0,none⟩),.agg cs.toArray] w (NumPost base w0.heap.size B d es ve x w):=by
 obtain⟨mo,vl,T,az,aq,aV,hT,ba,bx⟩:=aT.ex;have hB:=aT.lt;have I:=az.ext an;have N:=aq.ext RLb.good an;have aS:=aV.ext REd.good an;have aP:∀q,vl.ownBlock=some q->base<=q/\q<w0.heap.size:=λq F=>aq.own_lt F
 have bF:=an.size;have bH:=I.lt;have a0:=I.cell 0 _;have a1:=I.cell 1 _;have a2:=I.cell 2 _;have f0:=I.frozen 0;obtain⟨i1,v,rfl,hv⟩:=id hx;obtain⟨Y,V,rfl,_,_⟩:=hv.val;have HX:=Hd hx;have aM:=λW (hW:RLb S W x [.int .i64 x.g,.slice Y x.v.length V])=>key_c S x ay bp _ W hW
 have aR:=λW (hW:RLb S W x [.int .i64 x.g,.slice Y x.v.length V])=>label_c S x ay _ W hW
 have bG:(d.idxOf x:Int)<=1000000:=by have:=List.idxOf_le_length (a:=x) (l:=d);omega
 have bk:∃A n c,vl = .slice A n c:=by obtain⟨A,c,h,_⟩:=(N.sl RLb.good (by decide)).val;exact⟨A,_,c,h⟩
 have aN:=λq F=>N.own_lt (b:=q) F
 clear hx hv az aq aV
 rcases bx with⟨rfl,bh⟩ | ⟨m,rfl,hm,aa⟩
 .-- the map is made
  obtain⟨A,n0,c0,rfl⟩:=bk;obtain⟨Av,cv,be,_⟩:=(N.sl RLb.good (by decide)).val;injection be with ha0 hn0 hc0'
  subst ha0 hn0 hc0';obtain⟨T,bn⟩:∃T:Nat->Prop,∀q,¬ T q:=⟨λ_=>False,λ_ h=>h⟩
  have aI:Hid (qab RLb 2 61 base T w d (.slice A d.length c0)):=by subst bh;obtain⟨news,h1,h2⟩:=N;exact⟨news,h1,h2⟩
  have bo:=Hd bh;clear bh;have bi:=Hd aS;have aU:=Hd I;have bj:=Hd ba;have bf:¬ (Value.slice A d.length c0).ownBlock=some w.heap.size:=λe=>by have:=(aN _ e).2;omega
  have bI:=@run_makeMap Tryz.prog;have aB:=λW=>run_eql_map_nil W none
  have bB:B<(w.alloc (.cells #[.int .i64 x.g,.slice Y x.v.length V] 61)).heap.size:=by simp;omega
  have bC:B<((w.alloc (.cells #[.int .i64 x.g,.slice Y x.v.length V] 61)).alloc (.map #[] 0)).heap.size:=by simp;omega
  have bz:((w.alloc (.cells #[.int .i64 x.g,.slice Y x.v.length V] 61)).alloc (.map #[] 0)).frozen? ⟨B,0,none⟩=false:=((I.ext (((Ext.refl w).alloc _).alloc _)).frozen 0)
  have bE:=((I.ext (((Ext.refl w).alloc (.cells #[.int .i64 x.g,.slice Y x.v.length V] 61)).alloc (.map #[] 0))).cell 0 _)
  clear aT an N aS I aN ba
  go_enter Tryz.func245,Tryz.ntmps245
  go_wp2_with fail
  obtain⟨m,aQ⟩:=nm (w.heap.size+1);obtain⟨Wa,aF⟩:=nm (w.setCell ⟨B,0,none⟩ (.map (some (w.heap.size+1))));have aX:Bt (λq=>q=B) w Wa:=by rw[<- aF];exact Bt.set (Z:=λq=>q=B) (p:=⟨B,0,none⟩) (Bt.refl _ _) (.inr rfl) _
  have aC:Wa.heap.size=w.heap.size:=by rw[<- aF];simp[World.setCell]
  have a6:qaf Wa B 235 [.map (some (w.heap.size+1)),.slice A d.length c0,ve]:=by rw[<- aF];exact aU.out.set 0 _
  rw[aF,aQ];rw[aQ]at a6;clear aF;obtain⟨W,hW⟩:=nm ((Wa.alloc (.cells #[.int .i64 x.g,.slice Y x.v.length V] 61)).alloc (.map #[] 0));have a8:Ext Wa W:=by rw[<- hW];exact((Ext.refl Wa).alloc _).alloc _
  have bv:W.heap.size=w.heap.size+2:=by rw[<- hW];simp[aC]
  have av:W.cell? ⟨w.heap.size,0,none⟩=some (.int .i64 x.g):=by exact hW ▸ aC ▸ Lib.cell?_alloc_some _ (by simpa using qe7 Wa #[.int .i64 x.g,.slice Y x.v.length V] 61 0 _ rfl)
  have ax:W.cell? ⟨w.heap.size,1,none⟩=some (.slice Y x.v.length V):=by exact hW ▸ aC ▸ Lib.cell?_alloc_some _ (by simpa using qe7 Wa #[.int .i64 x.g,.slice Y x.v.length V] 61 1 _ rfl)
  have bm:IsMap Value.string W m (mapF d):=by
   rw[bo.out,<- hW,mapF_nil,<- aQ,<- aC];have:=IsMap.new Value.string (Wa.alloc (.cells #[.int .i64 x.g,.slice Y x.v.length V] 61))
   rwa [World.size_alloc]at this
  rw[hW];have aA:Bt (λq=>q=B) w W:=aX.ext a8
  have HN:Hid (qgf base B m d es (.slice A d.length c0) ve T W) :=
   ⟨a6.ext a8,aI.out.bt RLb.good aA λb _ hz=>⟨λht=>absurd ht (bn b),λe=>by have:=(aI.out.own_lt e).1;omega⟩,bi.out.bt REd.good aA λb _ hz=>⟨id,λe=>by have:=(bi.out.own_lt e).1;omega⟩,
    λq F=>absurd F (bn q),bj.out,by omega,bm⟩
  have aG:m≠w.heap.size:=by omega
  have a9:m<w0.heap.size\/w.heap.size<=m:=by omega
  have aw:Hid (Bt (λq=>q=B\/base<=q/\(q<w0.heap.size\/w.heap.size<=q)) w W):=aA.mono λq _ h=>.inl h
  have ag:Hid (RLb S W x [.int .i64 x.g,.slice Y x.v.length V]):=RLb.good.move HX.out (aA.kp (S:=S) λq _ h h'=>(hS q h).2 h');have bl:w.heap.size<W.heap.size:=by omega
  have hm:base<=m:=by omega
  clear a6 aX aA bm a8 aC bv aQ hW a0 a1 a2 f0 aB bE bz bB bC aI bi aU bj HX;clear Wa
  try go_wp2_with fail
  refine(aM _ ag.out).mono ?_;rintro e w3 ⟨rfl,h3⟩;have D:=HN.out.ext h3;have d0:=D.box.cell 0 _;have d1:=D.box.cell 1 _;have x0:=Ext.keep h3 av;have x1:=Ext.keep h3 ax;have ao:=RLb.good.bel ag.out h3;have bw:=h3.size;have J:=aw.out.ext h3;have X:=D.map.lookup2 (P:=Tryz.prog) Tryz.underlying233 qmz (z:=.int .i64 0) (by kernel_rfl) (qer x);rw[qtx d x ay au]at X;clear HN aw ag h3 av ax
  by_cases u:x∈d
  .rw [if_pos u]at X;simp only[Option.getD_some,Option.isSome_some]at X;have ac:Hid (qdg base B (qbx d x) es ve w3/\Bt (λq=>q=B\/base<=q/\(q<w0.heap.size\/w.heap.size<=q)) w w3):=⟨by unfold qbx;rw[if_pos u];exact D.arcs hB,J⟩
   clear D u J ao
   go_wp2_with fail
   go_ret;exact⟨rfl,ac.out.1,(ac.out.2.mono λq F h=>h.imp id λh=>⟨h.1,by omega⟩)⟩
  rw[if_neg u]at X;simp only[Option.getD_none,Option.isSome_none]at X;obtain⟨W3,bD,G,am⟩:=D.map.store (P:=Tryz.prog) Tryz.underlying233 qmz (qer x) (.int .i64 (d.length:Int));rw[qr6 d x ay au u]at G;obtain⟨p1,p2,p3⟩:=D.stored hB am;have O:Bt (λq=>q=m) w3 W3:=(Bt.of_grown am).mono λq _ h=>by injection h
  have y0:=O.cell x0 (Ne.symm aG);have y1:=O.cell x1 (Ne.symm aG);have e1:=p1.cell 1 _;have ah:=RLb.good.move ao (O.kp (S:=S) λq _ h h'=>by have:=(hS q h).1;have:=D.mb;omega);have L:=λq F=>p2.own_lt (b:=q) F
  have ad:=λq F=>p3.own_lt (b:=q) F
  have a4:=G.lt;have br:=p1.lt;have af:d.idxOf x=d.length:=List.idxOf_eq_length u;have bb:(Value.slice A d.length c0).ownBlock≠some m:=by obtain⟨bA,c',ks,h1,_⟩:=G;exact qkq p2 h1
  have aJ:=D.T;have ai:=D.ap;have aH:=D.mb;have ak:Bt (λq=>q=B\/base<=q/\(q<w0.heap.size\/w.heap.size<=q)) w W3:=J.trans (O.mono λq _ h=>.inr (h ▸ ⟨aH,a9⟩));have aj:qbx d x=d++[x]:=by unfold qbx;rw[if_neg u]
  have key:∀(WX w5:World) (A5:Option Addr) (c5:Nat),Ext W3 WX->Ext WX w5->qar (λb=>WX.heap.size<=b) w5 x.v [.slice A5 x.v.length c5] ->
    ∃g8 c8 w8,(Builtin.append_ #[22,22] 22 #[.slice A d.length c0,.slice (some ⟨w5.heap.size,0,none⟩) 1 1]).run Tryz.prog (w5.alloc (.cells #[.int .i64 x.g,.slice A5 x.v.length c5] 61)) = .ok (.slice (some ⟨g8,0,none⟩) (d.length+1) c8) w8 /\
     Bt (λq=>(Value.slice A d.length c0).ownBlock=some q) (w5.alloc (.cells #[.int .i64 x.g,.slice A5 x.v.length c5] 61)) w8/\w8.frozen? ⟨B,1,none⟩=false /\
     Hid (qdg base B (d++[x]) es ve (w8.setCell ⟨B,1,none⟩ (.slice (some ⟨g8,0,none⟩) (d.length+1) c8))/\Bt (λq=>q=B\/base<=q/\(q<w0.heap.size\/w.heap.size<=q)) w (w8.setCell ⟨B,1,none⟩ (.slice (some ⟨g8,0,none⟩) (d.length+1) c8))):=λWX w5 A5 c5 hX h5 h6=>by
   have M:=hX.trans' h5;have bu:=M.size;have bq:=hX.size;have bd:=(p2.ext RLb.good M).mono (T':=λq=>T q\/W3.heap.size<=q) RLb.good (λb _ h=>.inl h)
   obtain⟨g8,c8,w8,al,aY,U,a5,bg⟩:=qcw RLb.good (by decide) base 61 22 (.agg #[.int .i64 0,.slice none 0 0]) 32 Tryz.underlying22 qn2 rfl (by decide) (λq=>T q\/W3.heap.size<=q) w5 d (.slice A d.length c0) x [.int .i64 x.g,.slice A5 x.v.length c5]
    bd ⟨i1,_,rfl,qar.good.mono h6 λb _ hb=>⟨.inr (by omega),λe=>by have:=(L b e).2;omega⟩⟩ (by omega) aW
   have hp:=qgf.pushed (x:=x) (n:=0) (W3:=W3) (T:=T) hB aH (T':=λq=>T q\/W3.heap.size<=q) (λq F=>by
     rcases F with F | F
     .exact aJ q F
     exact⟨by omega,by omega,λe=>by have:=(ad q e).2;omega⟩) ai (p1.ext M) (p3.ext REd.good M) (G.move (M.block m a4)) (λq F=>(L q F).1) aY U
    (λq F=>by
     simp only[Value.ownBlock,Option.some.injEq]at F;subst F
     exact a5) bb
   exact⟨g8,c8,w8,al,bg,hp.2.1,hp.2.2.1,(ak.ext M).trans (hp.2.2.2.mono λq _ h=>by
    rcases h with h | h
    .exact .inr ⟨(aP q h).1,.inl (aP q h).2⟩
    exact .inl h)⟩
  have HK:=Hd key;have a7:¬ (Value.slice A d.length c0).ownBlock=some B:=λe=>by have:=(L _ e).1;omega
  have aL:¬ (Value.slice A d.length c0).ownBlock=some w.heap.size:=bf;have a3:=λWX (h:Ext W3 WX)=>aR WX (RLb.good.bel ah h)
  have aZ:=Hd af;have aK:=Hd aj;clear D u J ao key aj p1 p2 p3 G am aJ ai O ah ak L ad af aM aR
  go_wp2_with fail
  refine qek (λW=>W.cell? ⟨B,1,none⟩=some (.slice A d.length c0)/\W.cell? ⟨w.heap.size,0,none⟩=some (.int .i64 x.g)/\W.cell? ⟨w.heap.size,1,none⟩=some (.slice Y x.v.length V)) (by kernel_rfl) (by rfl) (by kernel_rfl) ⟨e1,y0,y1⟩ (λhHeld=>?_);dsimp only[List.dropLast,List.getLastD,List.getLast?,List.getLast]
  (refine tk 0 ?_;try simp only[qae])
  (refine tk 1 ?_;try simp only[qae])
  (refine tk 2 ?_;try simp only[qae])
  (refine tk 3 ?_;try simp only[qae])
  (refine tk 4 ?_;try simp only[qae])
  (refine tk 5 ?_;try simp only[qae])
  refine wpAnyH_ready (rs:=[6]) (by kernel_rfl) (by simp) ?_;refine AllReadyH.cons rfl (λK hK=>?_) AllReadyH.nil;go_simp;refine(a3 _ bel).mono ?_;rintro e w5 ⟨A5,c5,rfl,bc,aD⟩;obtain⟨g8,c8,w8,al,U,f8,ae⟩:=HK.out _ _ _ _ bel aD bc;refine hK.out _ _ (Ext.k3 aD hHeld) (λab=>?_);clear hK K
  try simp only[qae]
  refine wpAnyH_ready (rs:=[7]) (by kernel_rfl) (by simp) ?_;refine AllReadyH.cons rfl (λK hK=>?_) AllReadyH.nil;go_simp;have E:=Ext.k3 ((Ext.refl w5).alloc (.cells #[.int .i64 x.g,.slice A5 x.v.length c5] 61)) ab;refine hK.out _ _ E (λ_=>?_);clear hK K
  try simp only[qae]
  refine wpAnyH_ready (rs:=[8]) (by kernel_rfl) (by simp) ?_;refine AllReadyH.cons rfl (λK hK=>?_) AllReadyH.nil;refine qf8 rfl _ _ _ rfl _ _ _ rfl rfl al ?_;have k8:=U.cell E.1 a7;refine hK.out _ _ ⟨k8,U.cell E.2.1 aL,U.cell E.2.2 aL⟩ (λaO=>?_);clear hK K
  try simp only[qae]
  (refine tk 9 ?_;try simp only[qae])
  (refine tk 10 ?_;try simp only[qae])
  refine wpAnyH_done (by kernel_rfl) ?_ _;show Oper.wp _ _ _ _ _ _;go_simp
  go_wp2_with fail
  go_ret;exact⟨by rw[aZ.out];rfl,by rw[aK.out];exact ae.out.1,(ae.out.2.mono λq F h=>h.imp id λh=>⟨h.1,by omega⟩)⟩
 obtain⟨A,n0,c0,rfl⟩:=bk;obtain⟨Av,cv,be,_⟩:=(N.sl RLb.good (by decide)).val;injection be with ha0 hn0 hc0'
 subst ha0 hn0 hc0';have aE:=aa.move (an.block m aa.lt);have a9:m<w0.heap.size\/w.heap.size<=m:=.inl aa.lt;have HN:=Hd ((qgf.mk I N aS (λq F=>⟨(hT q F).1,λe=>(hT q F).2.1 (by rw[e]),(hT q F).2.2⟩) ba hm aE).ext ((Ext.refl w).alloc (.cells #[.int .i64 x.g,.slice Y x.v.length V] 61)));have aG:m≠w.heap.size:=by have:=aE.lt;omega
 have bf:¬ (Value.slice A d.length c0).ownBlock=some w.heap.size:=λe=>by have:=(aN _ e).2;omega
 have aw:Hid (Bt (λq=>q=B\/base<=q/\(q<w0.heap.size\/w.heap.size<=q)) w (w.alloc (.cells #[.int .i64 x.g,.slice Y x.v.length V] 61))):=(Bt.refl _ _).alloc _;have ag:Hid (RLb S (w.alloc (.cells #[.int .i64 x.g,.slice Y x.v.length V] 61)) x [.int .i64 x.g,.slice Y x.v.length V]):=RLb.good.bel HX.out ((Ext.refl w).alloc _);have aB:=λW=>run_eql_map_nil W (some m)
 clear I N aS aE aa aT an aN HX
 go_enter Tryz.func245,Tryz.ntmps245
 go_wp2_with fail
 have av:(w.alloc (.cells #[.int .i64 x.g,.slice Y x.v.length V] 61)).cell? ⟨w.heap.size,0,none⟩=some (.int .i64 x.g):=by go_simp
 have ax:(w.alloc (.cells #[.int .i64 x.g,.slice Y x.v.length V] 61)).cell? ⟨w.heap.size,1,none⟩=some (.slice Y x.v.length V):=by go_simp
 have bl:w.heap.size<(w.alloc (.cells #[.int .i64 x.g,.slice Y x.v.length V] 61)).heap.size:=by simp
 obtain⟨W,hW⟩:=nm (w.alloc (.cells #[.int .i64 x.g,.slice Y x.v.length V] 61));rw[hW]at HN aw ag av ax bl ⊢;clear hW a0 a1 a2 f0 aB
 try go_wp2_with fail
 refine(aM _ ag.out).mono ?_;rintro e w3 ⟨rfl,h3⟩;have D:=HN.out.ext h3;have d0:=D.box.cell 0 _;have d1:=D.box.cell 1 _;have x0:=Ext.keep h3 av;have x1:=Ext.keep h3 ax;have ao:=RLb.good.bel ag.out h3;have bw:=h3.size;have J:=aw.out.ext h3;have X:=D.map.lookup2 (P:=Tryz.prog) Tryz.underlying233 qmz (z:=.int .i64 0) (by kernel_rfl) (qer x);rw[qtx d x ay au]at X;clear HN aw ag h3 av ax
 by_cases u:x∈d
 .rw [if_pos u]at X;simp only[Option.getD_some,Option.isSome_some]at X;have ac:Hid (qdg base B (qbx d x) es ve w3/\Bt (λq=>q=B\/base<=q/\(q<w0.heap.size\/w.heap.size<=q)) w w3):=⟨by unfold qbx;rw[if_pos u];exact D.arcs hB,J⟩
  clear D u J ao
  go_wp2_with fail
  go_ret;exact⟨rfl,ac.out.1,(ac.out.2.mono λq F h=>h.imp id λh=>⟨h.1,by omega⟩)⟩
 rw[if_neg u]at X;simp only[Option.getD_none,Option.isSome_none]at X;obtain⟨W3,bD,G,am⟩:=D.map.store (P:=Tryz.prog) Tryz.underlying233 qmz (qer x) (.int .i64 (d.length:Int));rw[qr6 d x ay au u]at G;obtain⟨p1,p2,p3⟩:=D.stored hB am;have O:Bt (λq=>q=m) w3 W3:=(Bt.of_grown am).mono λq _ h=>by injection h
 have y0:=O.cell x0 (Ne.symm aG);have y1:=O.cell x1 (Ne.symm aG);have e1:=p1.cell 1 _;have ah:=RLb.good.move ao (O.kp (S:=S) λq _ h h'=>by have:=(hS q h).1;have:=D.mb;omega);have L:=λq F=>p2.own_lt (b:=q) F
 have ad:=λq F=>p3.own_lt (b:=q) F
 have a4:=G.lt;have br:=p1.lt;have af:d.idxOf x=d.length:=List.idxOf_eq_length u;have bb:(Value.slice A d.length c0).ownBlock≠some m:=by obtain⟨bA,c',ks,h1,_⟩:=G;exact qkq p2 h1
 have aJ:=D.T;have ai:=D.ap;have aH:=D.mb;have ak:Bt (λq=>q=B\/base<=q/\(q<w0.heap.size\/w.heap.size<=q)) w W3:=J.trans (O.mono λq _ h=>.inr (h ▸ ⟨aH,a9⟩));have aj:qbx d x=d++[x]:=by unfold qbx;rw[if_neg u]
 have key:∀(WX w5:World) (A5:Option Addr) (c5:Nat),Ext W3 WX->Ext WX w5->qar (λb=>WX.heap.size<=b) w5 x.v [.slice A5 x.v.length c5] ->
   ∃g8 c8 w8,(Builtin.append_ #[22,22] 22 #[.slice A d.length c0,.slice (some ⟨w5.heap.size,0,none⟩) 1 1]).run Tryz.prog (w5.alloc (.cells #[.int .i64 x.g,.slice A5 x.v.length c5] 61)) = .ok (.slice (some ⟨g8,0,none⟩) (d.length+1) c8) w8 /\
    Bt (λq=>(Value.slice A d.length c0).ownBlock=some q) (w5.alloc (.cells #[.int .i64 x.g,.slice A5 x.v.length c5] 61)) w8/\w8.frozen? ⟨B,1,none⟩=false /\
    Hid (qdg base B (d++[x]) es ve (w8.setCell ⟨B,1,none⟩ (.slice (some ⟨g8,0,none⟩) (d.length+1) c8))/\Bt (λq=>q=B\/base<=q/\(q<w0.heap.size\/w.heap.size<=q)) w (w8.setCell ⟨B,1,none⟩ (.slice (some ⟨g8,0,none⟩) (d.length+1) c8))):=λWX w5 A5 c5 hX h5 h6=>by
  have M:=hX.trans' h5;have bu:=M.size;have bq:=hX.size;have bd:=(p2.ext RLb.good M).mono (T':=λq=>T q\/W3.heap.size<=q) RLb.good (λb _ h=>.inl h)
  obtain⟨g8,c8,w8,al,aY,U,a5,bg⟩:=qcw RLb.good (by decide) base 61 22 (.agg #[.int .i64 0,.slice none 0 0]) 32 Tryz.underlying22 qn2 rfl (by decide) (λq=>T q\/W3.heap.size<=q) w5 d (.slice A d.length c0) x [.int .i64 x.g,.slice A5 x.v.length c5]
   bd ⟨i1,_,rfl,qar.good.mono h6 λb _ hb=>⟨.inr (by omega),λe=>by have:=(L b e).2;omega⟩⟩ (by omega) aW
  have hp:=qgf.pushed (x:=x) (n:=0) (W3:=W3) (T:=T) hB aH (T':=λq=>T q\/W3.heap.size<=q) (λq F=>by
    rcases F with F | F
    .exact aJ q F
    exact⟨by omega,by omega,λe=>by have:=(ad q e).2;omega⟩) ai (p1.ext M) (p3.ext REd.good M) (G.move (M.block m a4)) (λq F=>(L q F).1) aY U
   (λq F=>by
    simp only[Value.ownBlock,Option.some.injEq]at F;subst F
    exact a5) bb
  exact⟨g8,c8,w8,al,bg,hp.2.1,hp.2.2.1,(ak.ext M).trans (hp.2.2.2.mono λq _ h=>by
   rcases h with h | h
   .exact .inr ⟨(aP q h).1,.inl (aP q h).2⟩
   exact .inl h)⟩
 have HK:=Hd key;have a7:¬ (Value.slice A d.length c0).ownBlock=some B:=λe=>by have:=(L _ e).1;omega
 have aL:¬ (Value.slice A d.length c0).ownBlock=some w.heap.size:=bf;have a3:=λWX (h:Ext W3 WX)=>aR WX (RLb.good.bel ah h)
 have aZ:=Hd af;have aK:=Hd aj;clear D u J ao key aj p1 p2 p3 G am aJ ai O ah ak L ad af aM aR
 go_wp2_with fail
 refine qek (λW=>W.cell? ⟨B,1,none⟩=some (.slice A d.length c0)/\W.cell? ⟨w.heap.size,0,none⟩=some (.int .i64 x.g)/\W.cell? ⟨w.heap.size,1,none⟩=some (.slice Y x.v.length V)) (by kernel_rfl) (by rfl) (by kernel_rfl) ⟨e1,y0,y1⟩ (λhHeld=>?_);dsimp only[List.dropLast,List.getLastD,List.getLast?,List.getLast]
 (refine tk 0 ?_;try simp only[qae])
 (refine tk 1 ?_;try simp only[qae])
 (refine tk 2 ?_;try simp only[qae])
 (refine tk 3 ?_;try simp only[qae])
 (refine tk 4 ?_;try simp only[qae])
 (refine tk 5 ?_;try simp only[qae])
 refine wpAnyH_ready (rs:=[6]) (by kernel_rfl) (by simp) ?_;refine AllReadyH.cons rfl (λK hK=>?_) AllReadyH.nil;go_simp;refine(a3 _ bel).mono ?_;rintro e w5 ⟨A5,c5,rfl,bc,aD⟩;obtain⟨g8,c8,w8,al,U,f8,ae⟩:=HK.out _ _ _ _ bel aD bc;refine hK.out _ _ (Ext.k3 aD hHeld) (λab=>?_);clear hK K
 try simp only[qae]
 refine wpAnyH_ready (rs:=[7]) (by kernel_rfl) (by simp) ?_;refine AllReadyH.cons rfl (λK hK=>?_) AllReadyH.nil;go_simp;have E:=Ext.k3 ((Ext.refl w5).alloc (.cells #[.int .i64 x.g,.slice A5 x.v.length c5] 61)) ab;refine hK.out _ _ E (λ_=>?_);clear hK K
 try simp only[qae]
 refine wpAnyH_ready (rs:=[8]) (by kernel_rfl) (by simp) ?_;refine AllReadyH.cons rfl (λK hK=>?_) AllReadyH.nil;refine qf8 rfl _ _ _ rfl _ _ _ rfl rfl al ?_;have k8:=U.cell E.1 a7;refine hK.out _ _ ⟨k8,U.cell E.2.1 aL,U.cell E.2.2 aL⟩ (λaO=>?_);clear hK K
 try simp only[qae]
 (refine tk 9 ?_;try simp only[qae])
 (refine tk 10 ?_;try simp only[qae])
 refine wpAnyH_done (by kernel_rfl) ?_ _;show Oper.wp _ _ _ _ _ _;go_simp
 go_wp2_with fail
 go_ret;exact⟨by rw[aZ.out];rfl,by rw[aK.out];exact ae.out.1,(ae.out.2.mono λq F h=>h.imp id λh=>⟨h.1,by omega⟩)⟩
end
section
open Go.Shelf
theorem qrj:(Tryz.prog.info? 88).map (λi=>(i.zero,i.size,i.bytes))=some (some (.agg #[.int .i64 0,.int .i64 0,.int .i64 0]),3,24):=by kernel_rfl
theorem qdg.pushE {base B:Nat} {ls:List Lb} {Y:List Ed} {E v8:Value} {J F:World} {x:Ed} (hA:qdg base B ls Y E J) (ho:qab REd 3 88 base (λ_=>False) F (Y++[x]) v8) (aa:Bt (λq=>E.ownBlock=some q) J F) (I:∀q,v8.ownBlock=some q->E.ownBlock=some q\/J.heap.size<=q) :
  F.cell? ⟨B,2,none⟩=some E/\F.frozen? ⟨B,2,none⟩=false/\qdg base B ls (Y++[x]) v8 (F.setCell ⟨B,2,none⟩ v8)/\Bt (λq=>E.ownBlock=some q\/q=B) J (F.setCell ⟨B,2,none⟩ v8):=by
 obtain⟨mo,vl,T,A,c,O,M,U,ab⟩:=hA.ex;have hB:=hA.lt;have ac:=A.lt;have X:E.ownBlock≠some B:=λe=>by have:=(O.own_lt e).1;omega
 have V:v8.ownBlock≠some B:=λe=>by
  rcases I _ e with h | h
  .exact X h
  omega
 have N:=qi6 REd.good 2 A ho aa X V (λh=>h);have u:Bt (λq=>E.ownBlock=some q\/q=B) J (F.setCell ⟨B,2,none⟩ v8):=N.2.2.2.2;have G:=c.mono (T':=λq=>T q/\q<J.heap.size) RLb.good λb hb h=>⟨h,hb⟩
 refine⟨N.1.trans (A.cell 2 _),N.2.1,⟨hB,mo,vl,λq=>T q/\q<J.heap.size,N.2.2.1,G.bt RLb.good u λb hb D=>⟨λht=>?_,λe=>?_⟩,N.2.2.2.1,λq L=>⟨(M q L.1).1,(M q L.1).2.1,λe=>?_⟩,λq L e=>?_,ab.imp id ?_⟩,u⟩
 .rcases D with D | D
  .exact (M b ht.1).2.2 D
  have:=(M b ht.1).1;omega
 .rcases D with D | D
  .exact U b e D
  have:=(c.own_lt e).1;omega
 .rcases I q e with h | h
  .exact (M q L.1).2.2 h
  omega
 .rcases I q e with h | h
  .exact U q L h
  have:=(c.own_lt L).2;omega
 rintro⟨m,rfl,hm,d⟩;refine⟨m,rfl,hm,d.move (u.block m d.lt ?_)⟩;rintro(h | h)
 .obtain ⟨ad,c',ks,h1,_⟩:=d;exact qkq O h1 h
 omega
def AddPost (base B:Nat) (ls:List Lb) (es:List Ed) (x:Lb) (f t:Int) (w:World) (e:Ending) (w':World):Prop:=e = .returned (.tuple #[])/\∃ve',qdg base B (qbx ls x) (es++[⟨f,(ls.idxOf x:Int),t⟩]) ve' w'/\Bt (λq=>q=B\/base<=q) w w'
theorem add_c (S:Nat->Prop) (base B:Nat) (m:List Lb) (d:List Ed) (ve:Value) (x:Lb) (f t:Int) (hf:I64 f) (ht:I64 t) (an:qa0 x=true) (af:∀y∈m,qa0 y=true) (aj:x.size<=1000000000) (ai:m.length<=1000000) (Y:d.length<=1000000) (cs:List Value) (w:World) (hS:∀q,S q->q<base/\q≠B) (aa:base<=w.heap.size)
  (hA:qdg base B m d ve w) (hx:RLb S w x cs):Calls Tryz.prog 204 #[.pointer (some ⟨B,0,none⟩),.int .i64 f,.agg cs.toArray,.int .i64 t] w (AddPost base B m d x f t w):=by
 have hB:=hA.lt;obtain⟨i1,v,rfl,hv⟩:=id hx;obtain⟨Ax,cx,rfl,_,_⟩:=hv.val;have ag:(m.idxOf x:Int)<=1000000:=by have:=List.idxOf_le_length (a:=x) (l:=m);omega
 have hI:I64 (m.idxOf x:Int):=by unfold I64;omega
 have X:qab REd 3 88 base (λ_=>False) w d ve:=by obtain⟨mo,vl,T,_,_,h,_⟩:=hA.ex;exact h
 have ap:B<w.heap.size:=by omega
 have O:=λq hq=>X.own_lt (b:=q) hq
 obtain⟨A,E,ae,_⟩:=(X.sl REd.good (by decide)).val;subst ae;have a2:=Ext.keep ((Ext.refl w).alloc (.cells #[.int .i64 x.g,.slice Ax x.v.length cx] 61)).drew hA.at;have ad:=λWX (h:Ext w WX)=>number_c S base B m d (.slice A d.length E) x an af aj ai _ w WX hS (Nat.le_trans aa h.size) hA h (RLb.good.bel hx h)
 have key:∀(WX D:World) (e:Ending),Ext w WX->NumPost base w.heap.size B m d (.slice A d.length E) x WX e D ->
   e = .returned (.int .i64 (m.idxOf x:Int))/\D.cell? ⟨B,2,none⟩=some (.slice A d.length E)/\Bt (λq=>q=B\/base<=q/\q<w.heap.size) WX D/\∃g8 N I,(Builtin.append_ #[23,23] 23 #[.slice A d.length E,.slice (some ⟨D.heap.size,0,none⟩) 1 1]).run Tryz.prog (D.alloc (.cells #[.int .i64 f,.int .i64 (m.idxOf x:Int),.int .i64 t] 88)) = .ok (.slice (some ⟨g8,0,none⟩) (d.length+1) N) I /\
    Bt (λq=>(Value.slice A d.length E).ownBlock=some q) (D.alloc (.cells #[.int .i64 f,.int .i64 (m.idxOf x:Int),.int .i64 t] 88)) I/\I.frozen? ⟨B,2,none⟩=false /\
    Hid (qdg base B (qbx m x) (d++[⟨f,(m.idxOf x:Int),t⟩]) (.slice (some ⟨g8,0,none⟩) (d.length+1) N) (I.setCell ⟨B,2,none⟩ (.slice (some ⟨g8,0,none⟩) (d.length+1) N))/\Bt (λq=>q=B\/base<=q) w (I.setCell ⟨B,2,none⟩ (.slice (some ⟨g8,0,none⟩) (d.length+1) N))):=λWX D e hX h=>by
  obtain⟨he,V,ab⟩:=h;have L:qab REd 3 88 base (λ_=>False) D d (.slice A d.length E):=by obtain⟨mo,vl,T,_,_,h,_⟩:=V.ex;exact h
  have au:=ab.size;have aq:=hX.size
  obtain⟨g8,N,I,U,al,u,ak,am⟩:=qcw REd.good (by decide) base 88 23 (.agg #[.int .i64 0,.int .i64 0,.int .i64 0]) 24 Tryz.underlying23 qrj rfl (by decide) (λ_=>False) D d (.slice A d.length E) ⟨f,(m.idxOf x:Int),t⟩ [.int .i64 f,.int .i64 (m.idxOf x:Int),.int .i64 t]
   L ⟨hf,hI,ht,rfl⟩ (by omega) Y
  have hp:=V.pushE al u (λq hq=>by
    simp only[Value.ownBlock,Option.some.injEq]at hq;subst hq
    exact ak)
  refine⟨he,V.at,ab,g8,N,I,U,am,hp.2.1,hp.2.2.1,(hX.bt.trans (ab.mono λq _ h=>h.imp id λh=>h.1)).trans (hp.2.2.2.mono λq _ h=>?_)⟩
  rcases h with h | h
  .exact .inr (L.own_lt h).1
  exact .inl h
 have HK:=Hd key;have ao:¬ (Value.slice A d.length E).ownBlock=some B:=λe=>by have:=(O _ e).1;omega
 have ah:¬ (Value.slice A d.length E).ownBlock=some w.heap.size:=λe=>by have:=(O _ e).2;omega
 have ac:¬ (w.heap.size=B\/base<=w.heap.size/\w.heap.size<w.heap.size):=by omega
 clear hx hv X O key hA ag hI
 go_enter Tryz.func204,Tryz.ntmps204
 go_wp2_with fail
 refine qek (λW=>W.cell? ⟨B,2,none⟩=some (.slice A d.length E)/\W.cell? ⟨w.heap.size,0,none⟩=some (.int .i64 x.g)/\W.cell? ⟨w.heap.size,1,none⟩=some (.slice Ax x.v.length cx)) (by kernel_rfl) (by rfl) (by kernel_rfl) ⟨a2,by go_simp,by go_simp⟩ (λhHeld=>?_);dsimp only[List.dropLast,List.getLastD,List.getLast?,List.getLast]
 (refine tk 0 ?_;try simp only[qae])
 (refine tk 1 ?_;try simp only[qae])
 (refine tk 2 ?_;try simp only[qae])
 (refine tk 3 ?_;try simp only[qae])
 (refine tk 4 ?_;try simp only[qae])
 (refine tk 5 ?_;try simp only[qae])
 (refine tk 6 ?_;try simp only[qae])
 (refine tk 7 ?_;try simp only[qae])
 (refine tk 9 ?_;try simp only[qae])
 refine wpAnyH_ready (rs:=[8]) (by kernel_rfl) (by simp) ?_;refine AllReadyH.cons rfl (λK J=>?_) AllReadyH.nil;go_simp;refine(ad _ bel).mono ?_;intro e D h5;obtain⟨rfl,k5,b5,g8,N,I,U,u,f8,M⟩:=HK.out _ _ _ bel h5;refine J.out _ _ ⟨k5,b5.cell hHeld.2.1 ac,b5.cell hHeld.2.2 ac⟩ (λG=>?_);clear J K h5
 try simp only[qae]
 (refine tk 10 ?_;try simp only[qae])
 refine wpAnyH_ready (rs:=[11]) (by kernel_rfl) (by simp) ?_;refine AllReadyH.cons rfl (λK J=>?_) AllReadyH.nil;go_simp;have c:=Ext.k3 ((Ext.refl D).alloc (.cells #[.int .i64 f,.int .i64 (m.idxOf x:Int),.int .i64 t] 88)) G;refine J.out _ _ c (λ_=>?_);clear J K
 try simp only[qae]
 refine wpAnyH_ready (rs:=[12]) (by kernel_rfl) (by simp) ?_;refine AllReadyH.cons rfl (λK J=>?_) AllReadyH.nil;refine qf8 rfl _ _ _ rfl _ _ _ rfl rfl U ?_;refine J.out _ _ ⟨u.cell c.1 ao,u.cell c.2.1 ah,u.cell c.2.2 ah⟩ (λF=>?_);clear J K
 try simp only[qae]
 (refine tk 13 ?_;try simp only[qae])
 (refine tk 14 ?_;try simp only[qae])
 refine wpAnyH_done (by kernel_rfl) ?_ _;show Oper.wp _ _ _ _ _ _;have k8:=F.1;go_simp
 go_wp2_with fail
 go_end0
 exact⟨rfl,_,M.out.1,M.out.2⟩
end
end Go.Proofs.YtegenalcheooeaaGreat
