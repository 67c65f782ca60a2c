/- Of the proof of a law of the suites: LibIAr, LBuild, LawS2, LawS3, LawFew, LawFew2, LawFew3. -/
import Derived.Test.YtegenalcheooeaaGreatB01
import Derived.Test.YtegenalcheooeaaGreatB02
import Derived.Test.YtegenalcheooeaaGreatB03
import Derived.Test.YtegenalcheooeaaGreatB11
import Derived.Test.YtegenalcheooeaaGreatB13
import Derived.Laws.OwnMore
set_option linter.unusedSectionVars false
set_option linter.unusedSimpArgs false
set_option linter.unusedVariables false
namespace Go.Proofs.YtegenalcheooeaaGreat
open Go.RowKit
attribute [local go_sem] cell?_exto
set_option maxHeartbeats 16000000
set_option maxRecDepth 100000
section
/- slices.IndexFunc and ContainsFunc at each element type of the program: what they come to,whatever function value they are given. -/
theorem idxFAr {σ:Type} (J:σ->World->Prop) (d:σ->Ar->Bool×σ) (S:Nat->Prop) (w:World) (xs:List (Ar)) (v:Value) (N:RSl RAr 4 S w xs [v]) (g:Nat) (lb:Array Value)
  (eg:∀args w,(callFunc g args).run Tryz.prog w = .ok (.enter g args) w) (V:∀s W,J s W->Kp S w W)
  (U:∀x∈xs,∀s cs W,J s W->RAr S W x cs->Calls Tryz.prog g (#[.agg cs.toArray]++lb) W λe w'=>e = .returned (.bool (d s x).1)/\J (d s x).2 w') (F:σ) (h0:J F w) :
  Calls Tryz.prog 244 #[v,.func (.func g) #[] lb] w λe w'=>e = .returned (.int .i64 (qav d F xs).1)/\J (qav d F xs).2 w':=by
 obtain⟨A,c,rfl,hc,aa⟩:=N.val;have HX:=Hd N;have Y:=Hd U;have HJ:=Hd V;clear N U V
 go_enter Tryz.func244,Tryz.ntmps244
 go_wp2
 go_loopw [5,8] (λ_ i wr=>∃k:Nat,k<=xs.length/\i = .int .i64 k/\Hid (∃s,J s wr/\qav d F xs=((qav d s (xs.drop k)).1+(if (qav d s (xs.drop k)).1<0 then 0 else (k:Int)),(qav d s (xs.drop k)).2))) (λ_ i _=>xs.length-(intOf i).toNat)
 case atStart=>exact⟨0,Nat.zero_le _,rfl,F,h0,by simp⟩
 obtain⟨k,hk,rfl,s,hs,hf⟩:=hrel
 by_cases E:k<xs.length
 .obtain ⟨b,M,cs,rfl,hb,hS,X,hr,m⟩:=((RSl.good RAr.good).move HX.out (HJ.out _ _ hs)).get k E;have u:=Y.out xs[k] (List.getElem_mem E) s cs wr hs hr
  obtain⟨G,L,c2,c3,rfl⟩:∃G L c2 c3,cs=[G,L,c2,c3]:=by
   match cs,X with
   | [G,L,c2,c3],_=>exact⟨G,L,c2,c3,rfl⟩
  have g0:=(by simpa using m.get 0 _:wr.cell? ⟨b,M+k*4,none⟩=some G)
  have g1:=m.get 1 _;have g2:=m.get 2 _;have g3:=m.get 3 _;rw[List.drop_eq_getElem_cons E,qav]at hf;clear m X hS hr
  cases O:(d s xs[k]).1 with
  | true =>
   rw[O]at u hf;have I:=Hd hf;clear hf
   go_wp2_with fail
   refine u.mono ?_;rintro e w' ⟨rfl,D⟩
   go_wp2_with fail
   go_ret;rw[I.out];exact⟨by simp,D⟩
  | false =>
   rw[O]at u hf;have I:=Hd hf;clear hf
   go_wp2_with fail
   refine u.mono ?_;rintro e w' ⟨rfl,D⟩
   go_wp2_with fail
   go_roundw
   case rel =>
    refine⟨k+1,by omega,by go_num,_,D,?_⟩;rw[I.out];exact qjo _ _
   simp[intOf];omega
 have hd:xs.drop k=[]:=List.drop_of_length_le (by omega);rw[hd,qav]at hf;have I:=Hd hf;clear hf
 go_wp2
 go_ret;rw[I.out];exact⟨by simp,hs⟩
theorem conFAr {σ:Type} (J:σ->World->Prop) (d:σ->Ar->Bool×σ) (S:Nat->Prop) (w:World) (xs:List (Ar)) (v:Value) (D:RSl RAr 4 S w xs [v]) (g:Nat) (lb:Array Value)
  (L:∀args w,(callFunc g args).run Tryz.prog w = .ok (.enter g args) w) (G:∀s W,J s W->Kp S w W)
  (F:∀x∈xs,∀s cs W,J s W->RAr S W x cs->Calls Tryz.prog g (#[.agg cs.toArray]++lb) W λe w'=>e = .returned (.bool (d s x).1)/\J (d s x).2 w') (u:σ) (M:J u w) :
  Calls Tryz.prog 202 #[v,.func (.func g) #[] lb] w λe w'=>e = .returned (.bool (qc9 d u xs).1)/\J (qc9 d u xs).2 w':=by
 obtain⟨A,c,rfl,N,I⟩:=D.val;have m:=idxFAr J d S w xs _ D g lb L G F u M;rw[qje];clear D F G
 go_enter Tryz.func202,Tryz.ntmps202
 go_wp2_with fail
 refine m.mono ?_;rintro e w' ⟨rfl,E⟩
 go_wp2_with fail
 all_goals go_ret
 all_goals exact⟨by simp,E⟩
theorem conPAr (p:Ar->Bool) (S:Nat->Prop) (w:World) (xs:List (Ar)) (v:Value) (d:RSl RAr 4 S w xs [v]) (g:Nat) (lb:Array Value)
  (D:∀args w,(callFunc g args).run Tryz.prog w = .ok (.enter g args) w)
  (A:∀x∈xs,∀cs W,Ext w W->RAr S W x cs->Calls Tryz.prog g (#[.agg cs.toArray]++lb) W λe w'=>e = .returned (.bool (p x))/\Ext W w') :
  Calls Tryz.prog 202 #[v,.func (.func g) #[] lb] w λe w'=>e = .returned (.bool (xs.any p))/\Ext w w' :=
 (conFAr (λ(_:Unit) W=>Ext w W) (λs x=>(p x,s)) S w xs v d g lb D (λ_ _ h=>Ext.kp h) (λx d s cs W u hr=>(A x d cs W u hr).mono λe w' ⟨m,c⟩=>⟨m,u.trans' c⟩) () (Ext.refl w)).mono
  λe w' ⟨m,c⟩=>⟨by rw[m,qkc],c⟩
end
section
/- lts.Build where all is well: walked. -/
open Go.Shelf
def qas:List Ar->List Lb->List Ed->List Lb×List Ed
 | [],ls,es=>(ls,es)
 | a :: rs,ls,es=>qas rs (qbx ls a.l) (es++[⟨a.f,(ls.idxOf a.l:Int),a.t⟩])
theorem quf (a:Ar):∀(rs:List Ar) (d:List Lb) (c:List Ed),qas (rs++[a]) d c=(qbx (qas rs d c).1 a.l,(qas rs d c).2++[⟨a.f,((qas rs d c).1.idxOf a.l:Int),a.t⟩])
 | [],_,_=>rfl
 | x :: rs,d,c=>by rw[List.cons_append,qas,quf a rs,qas]
theorem qlb:∀(rs:List Ar) (c:List Lb) (d:List Ed),(qas rs c d).1.length<=c.length+rs.length/\(qas rs c d).2.length=d.length+rs.length
 | [],c,d=>⟨Nat.le_refl _,rfl⟩
 | a :: rs,c,d=>by
  have h:=qlb rs (qbx c a.l) (d++[⟨a.f,(c.idxOf a.l:Int),a.t⟩]);have m:=addLb_len c a.l;rw[List.length_append,List.length_singleton]at h;rw[qas,List.length_cons];omega
theorem qrq:∀(rs:List Ar) (c:List Lb) (d:List Ed),(∀a∈rs,qa0 a.l=true)->(∀x∈c,qa0 x=true)->∀x∈(qas rs c d).1,qa0 x=true
 | [],_,_,_,h=>h
 | a :: rs,c,d,h,h'=>qrq rs _ _ (λb m=>h b (List.mem_cons_of_mem _ m)) (addLb_ok (h a (List.mem_cons_self ..)) h')
theorem quo (c:List Lb) (x:Lb):c.idxOf x<(qbx c x).length:=by
 unfold qbx
 split
 .rename_i h;exact List.idxOf_lt_length_of_mem h
 rename_i h;have:=List.idxOf_le_length (a:=x) (l:=c)
 simp
 omega
theorem qs0:∀(rs:List Ar) (c:List Lb) (m:List Ed),(∀e∈m,0<=e.l/\e.l<c.length)->∀e∈(qas rs c m).2,0<=e.l/\e.l<(qas rs c m).1.length
 | [],_,_,h=>h
 | a :: rs,c,m,h=>qs0 rs _ _ λe d=>by
  have u:c.length<=(qbx c a.l).length:=by unfold qbx;split <;> simp
  rcases List.mem_append.1 d with d | d
  .have:=h e d;omega
  rw[List.mem_singleton.1 d];have:=quo c a.l;exact⟨by show(0:Int)<=(c.idxOf a.l:Int);omega,by show(c.idxOf a.l:Int)<_;omega⟩
def qcv (n:Int) (rs:List Ar):Sy:=qj8 n (qas rs [] []).1 (qas rs [] []).2
theorem eg203:∀args w,(callFunc 203 args).run Tryz.prog w = .ok (.enter 203 args) w:=enters_of Tryz.func203 (by kernel_rfl) rfl
theorem qty (n x:Int) (m:0<=x) (d:x<n) (c:Nat) (w:World) (h:w.cell? ⟨c,0,none⟩=some (.int .i64 n)):Calls Tryz.prog 201 #[.int .i64 x,.pointer (some ⟨c,0,none⟩)] w λe w'=>e = .returned (.bool true)/\Ext w w':=by
 go_enter Tryz.func201,Tryz.ntmps201
 go_wp2_with fail
 go_ret;exact⟨rfl,Ext.refl _⟩
theorem build2_c (S:Nat->Prop) (n:Int) (a:Ar) (d:(0<=a.f/\a.f<n)/\0<=a.t/\a.t<n) (u F:Nat) (cs:List Value) (w:World) (h:w.cell? ⟨u,0,none⟩=some (.int .i64 n)) (hf:w.cell? ⟨F,0,none⟩=some (.func (.func 201) #[] #[.pointer (some ⟨u,0,none⟩)])) (I:RAr S w a cs) :
  Calls Tryz.prog 203 #[.agg cs.toArray,.pointer (some ⟨F,0,none⟩)] w λe w'=>e = .returned (.bool false)/\Ext w w':=by
 obtain⟨X,Y,v,rfl,V,E⟩:=I;obtain⟨A,c,rfl,_,_⟩:=E.val;have U:=λW (D:Ext w W)=>qty n a.f d.1.1 d.1.2 u W (Ext.keep D h)
 have N:=λW (D:Ext w W)=>qty n a.t d.2.1 d.2.2 u W (Ext.keep D h)
 have J:=World.block_lt_of_cell? w _ hf;have L:=World.block_lt_of_cell? w _ h;clear E d
 go_enter Tryz.func203,Tryz.ntmps203
 go_wp2_with fail
 refine(U _ bel).mono ?_;rintro e w1 ⟨rfl,m⟩;have G:=m.cells;have O:=m.size
 go_wp2_with fail
 refine(N _ bel).mono ?_;rintro e w2 ⟨rfl,M⟩
 go_wp2_with fail
 go_ret;exact⟨rfl,bel⟩
def qr5 (n:Int) (rs:List Ar) (w:World) (e:Ending) (w':World):Prop:=∃cs,e = .returned (.tuple #[.agg cs.toArray,.int .i64 0])/\RSy (λb=>w.heap.size<=b) w' (qcv n rs) cs/\Ext w w'
theorem build_c (S:Nat->Prop) (n:Int) (hn:1<=n/\n<=20000) (rs:List Ar) (v:Value) (w:World) (hx:RSl RAr 4 S w rs [v]) (M:∀a∈rs,(0<=a.f/\a.f<n)/\0<=a.t/\a.t<n) (G:∀a∈rs,qa0 a.l=true/\a.l.size<=1000000000) (aZ:rs.length<=100000)
  (hl:(qas rs [] []).1.length<=16) (au:qm2 (qas rs [] []).1) (ao:qmk (qdi qbf (edR (qas rs [] []).1 (qas rs [] []).2))):Calls Tryz.prog 135 #[.int .i64 n,v] w (qr5 n rs w):=by
 obtain⟨A,c,rfl,hc,ba⟩:=hx.val;have ai:RSl RAr 4 (λq=>q<w.heap.size) w rs [.slice A rs.length c]:=(RSl.good RAr.good).mono hx λb hb _=>hb
 have HX:=Hd ai;have aQ:=Hd M;have aB:=Hd G;have aM:=Hd ao;have aJ:=Hd au;have bb:=hn.1;have bg:=hn.2;have af:rs.any (λ_=>false)=false:=by simp
 have N:=λ(W:World) (Bn Bf:Nat) (hW:Ext w W) (h1:W.cell? ⟨Bn,0,none⟩=some (.int .i64 n)) (h2:W.cell? ⟨Bf,0,none⟩=some (.func (.func 201) #[] #[.pointer (some ⟨Bn,0,none⟩)])) =>
  conPAr (λ_=>false) (λq=>q<w.heap.size) W rs _ ((RSl.good RAr.good).bel ai hW) 203 #[.pointer (some ⟨Bf,0,none⟩)] eg203 (λx hx cs W' ap hr=>build2_c _ n x (M x hx) Bn Bf cs W' (Ext.keep ap h1) (Ext.keep ap h2) hr)
 rw[af]at N;have a6:decide (n<1)=false:=decide_eq_false (by omega);have bf:decide (20000<n)=false:=decide_eq_false (by omega);clear hx ai M G ao af hn au
 go_enter Tryz.func135,Tryz.ntmps135
 go_wp2_with fail
 obtain⟨W3,D⟩:=nm (((w.alloc (.cells #[.int .i64 n] 3)).alloc (.cells #[.int .i64 0,.slice none 0 0,.slice none 0 0] 25)).alloc (.cells #[.func (.func 201) #[] #[.pointer (some ⟨w.heap.size,0,none⟩)]] 78));have ak:Ext w W3:=by rw[<- D];exact(((Ext.refl w).alloc _).alloc _).alloc _
 have aL:W3.heap.size=w.heap.size+3:=by rw[<- D];simp
 have b0:qaf W3 w.heap.size 3 [.int .i64 n]:=by
  show W3.heap[_]? = _;rw[<- D,Below.heap_alloc _ _ _ (by simp;omega),Below.heap_alloc _ _ _ (by simp)];exact World.alloc_heap_new _ _
 have b1:qaf W3 (w.heap.size+1) 25 [.int .i64 0,.slice none 0 0,.slice none 0 0]:=by rw[<- D];exact qg3 ..
 have b2:qaf W3 (w.heap.size+1+1) 78 [.func (.func 201) #[] #[.pointer (some ⟨w.heap.size,0,none⟩)]]:=by rw[<- D];exact qgy ..
 rw[D];clear D;refine(N W3 w.heap.size (w.heap.size+1+1) ak (b0.cell 0 _) (b2.cell 0 _)).mono ?_;rintro e w1 ⟨rfl,I⟩;have ax:Ext w w1:=ak.trans' I;have n0:=(b0.ext I).cell 0 _;have a8:=(b0.ext I).lt;have aO:=Hd (b1.ext I);have am:=I.size;clear N b0 b1 b2 I
 go_wp2_with fail
 obtain⟨B,hB⟩:=nm (w1.heap.size);obtain⟨W4,L⟩:=nm (w1.alloc (.cells #[.map none,.slice none 0 0,.slice none 0 0] 235));have Y:Ext w1 W4:=by rw[<- L];exact(Ext.refl w1).alloc _
 have an:qaf W4 B 235 [.map none,.slice none 0 0,.slice none 0 0]:=by rw[<- L,<- hB];exact World.alloc_heap_new _ _
 have aY:W4.heap.size=B+1:=by rw[<- L,<- hB];simp
 rw[L,hB];clear L;have aU:Hid (qdg (B+1) B [] [] (.slice none 0 0) W4):=⟨by omega,none,.slice none 0 0,λ_=>False,an,qab.nil ..,qab.nil ..,λ_ h=>h.elim,λ_ h=>by simp[Value.ownBlock]at h,.inl ⟨rfl,rfl⟩⟩
 have HM:Hid (W3.heap.size<=B/\W3.heap.size=w.heap.size+3/\w1.heap.size=B/\W4.heap.size=B+1):=by show _/\_;omega
 have aC:=Hd Y;have aG:=Hd ax;have n4:=Ext.keep Y n0;have HBr4:=Hd (aO.out.ext Y);clear Y an aY hB ax am aL ak n0
 go_loopw [27] (λvi wr=>∃(k:Nat) (ve:Value),k<=rs.length/\vi = .int .i64 k/\Hid (Bt (λq=>q=B\/B+1<=q) W4 wr)/\Hid (qdg (B+1) B (qas (rs.take k) [] []).1 (qas (rs.take k) [] []).2 ve wr)) (λvi _=>rs.length-(intOf vi).toNat)
 case atStart=>exact⟨0,_,Nat.zero_le _,rfl,Bt.refl _ _,aU.out⟩
 obtain⟨k,ve,hk,rfl,F,hA⟩:=hrel
 by_cases aa:k<rs.length
 .have X:Kp (λq=>q<w.heap.size) w wr:=((aG.out.trans' aC.out).kp).trans (F.out.kp λq _ h h'=>by have:=HM.out;omega);obtain⟨b,bc,cs,rfl,hb,J,hl,hr,d⟩:=HX.out.get k aa;have aH:=RAr.good.move hr X;obtain⟨i1,i2,u,rfl,i3,hu⟩:=id aH;obtain⟨Au,cu,rfl,_,_⟩:=hu.val;have a0:=X.cell (d.get 0 _) J;have a1:=X.cell (d.get 1 _) J;have a2:=X.cell (d.get 2 _) J;have a3:=X.cell (d.get 3 _) J;simp only[Nat.add_zero]at a0;have G:=aB.out _ (List.getElem_mem aa);have M:=aQ.out _ (List.getElem_mem aa);have ah:RLb (λq=>q<w.heap.size) wr rs[k].l [.int .i64 rs[k].l.g,.slice Au rs[k].l.v.length cu]:=⟨i3,_,rfl,hu⟩
  have aj:=λW (hW:Ext wr W)=>qo9 _ _ _ W (RLb.good.bel ah hW)
  rw[qd1,if_pos G.1]at aj;have U:=qlb (rs.take k) [] [];simp only[List.length_take,List.length_nil]at U;have al:=quf rs[k] (rs.take k) [] [];rw[<- List.take_succ_eq_append_getElem aa]at al
  have ae:=λW (hW:Ext wr W)=>add_c (λq=>q<w.heap.size) (B+1) B (qas (rs.take k) [] []).1 (qas (rs.take k) [] []).2 ve rs[k].l rs[k].f rs[k].t i1 i2 G.1
   (qrq _ _ _ (λa ha=>(aB.out a (List.mem_of_mem_take ha)).1) (by simp)) G.2 (by omega) (by omega) _ W (λq hq=>by have:=HM.out;omega) (by have:=HM.out;have:=F.out.size;have:=hW.size;omega) (hA.out.ext hW) (RLb.good.bel ah hW)
  have aw:=Hd al;have ag:=Hd ae;obtain⟨x,aq⟩:=nm (rs[k]);rw[aq]at a0 a1 a2 a3 aj ag aw;clear aH hr hu ah d hl J G M al ae aq U i1 i2 i3
  go_wp2_with fail
  refine(aj _ bel).mono ?_;rintro e w5 ⟨rfl,h5⟩;have aS:=h5.cells;have a9:=h5.size
  go_wp2_with fail
  refine(ag.out _ bel).mono ?_;rintro e w6 ⟨rfl,aT,ay,aA⟩;have aK:=Hd ay;have aF:Ext wr w5:=bel;have aR:Hid (Bt (λq=>q=B\/B+1<=q) W4 w6):=(F.out.ext aF).trans aA;clear ay aA aS
  go_wp2_with fail
  go_roundw
  case rel=>exact⟨k+1,aT,by omega,by go_num,aR.out,by show qdg _ _ _ _ _ _;rw[aw.out];exact aK.out⟩
  simp[intOf];omega
 obtain rfl:k=rs.length:=by omega
 have az:rs.take rs.length=rs:=List.take_length;rw[az]at hA;have U:=qlb rs [] [];have aD:=used_c (B+1) B (qas rs [] []).1 (qas rs [] []).2 ve n (by unfold I64;omega) wr (by have:=HM.out;have:=F.out.size;omega) hA.out hl aJ.out (by have:=U.2;simp only[List.length_nil]at this;omega) (qs0 rs [] [] (by simp)) aM.out;have be:=F.out.cell n4 (by have:=HM.out;show ¬ (w.heap.size=B\/B+1<=w.heap.size);omega);have ac:=HBr4.out.bt F.out (by have:=HM.out;omega);clear az hk
 go_wp2_with fail
 refine aD.mono ?_;rintro e w9 ⟨cs,rfl,ab,aE⟩;obtain⟨E,O⟩:=nm (qj8 n (qas rs [] []).1 (qas rs [] []).2);rw[O]at ab;have aX:Hid (qcv n rs=E):=O;clear O;obtain⟨j1,v1,v2,rfl,aI,av⟩:=id ab;obtain⟨A1,c1,rfl,_,_⟩:=aI.val;obtain⟨A2,c2,rfl,_,_⟩:=av.val;have aV:=Hd ab;have m:=ac.ext aE;have r0:=m.cell 0 _;have r1:=m.cell 1 _;have r2:=m.cell 2 _;have a4:=m.frozen 0;have bd:=m.frozen 1;have a7:=m.frozen 2;have a5:=m.lt;have aW:=Hd m;have aP:Hid (Ext w w9):=Bt.new (aG.out.trans' aC.out) (F.out.ext aE) λq _ h=>by have:=HM.out;omega
 clear aD aI av ab ac m hA U
 go_wp2_with fail
 have aN:=((aW.out.set 0 (.int .i64 E.n)).set 1 (.slice A1 E.ls.length c1)).set 2 (.slice A2 E.es.length c2)
 have ad:Bt (λq=>q=w.heap.size+1) w9 (((w9.setCell ⟨w.heap.size+1,0,none⟩ (.int .i64 E.n)).setCell ⟨w.heap.size+1,1,none⟩ (.slice A1 E.ls.length c1)).setCell ⟨w.heap.size+1,2,none⟩ (.slice A2 E.es.length c2)) :=
  Bt.set (Z:=λq=>q=w.heap.size+1) (p:=⟨w.heap.size+1,2,none⟩) (Bt.set (Z:=λq=>q=w.heap.size+1) (p:=⟨w.heap.size+1,1,none⟩) (Bt.set (Z:=λq=>q=w.heap.size+1) (p:=⟨w.heap.size+1,0,none⟩) (Bt.refl _ _) (.inr rfl) _) (.inr rfl) _) (.inr rfl) _
 have V:=aN.ext ((Ext.refl _).alloc (.cells #[.int .i64 E.n,.slice A1 E.ls.length c1,.slice A2 E.es.length c2] 25));refine bodyPost_ret (qg8 rfl _ _ (w.heap.size+1) _ _ _ (.int .i64 0) rfl rfl (V.cell 0 _) (V.cell 1 _) (V.cell 2 _)) rfl ⟨[.int .i64 E.n,.slice A1 E.ls.length c1,.slice A2 E.es.length c2],rfl,?_,?_⟩
 .rw [aX.out];exact RSy.good.mono (RSy.good.bel (RSy.good.move aV.out (ad.kp (S:=λb=>B+1<=b) λq _ h h'=>by have:=HM.out;omega)) ((Ext.refl _).alloc _)) λb _ h=>by have:=HM.out;omega
 exact(Bt.new aP.out ad λq _ h=>by omega).alloc _
end
section
/- The law's words: labels,arcs,tests: walked. -/
open Go.Shelf
theorem qxw {d:Func} {p:Tmp} (h:d.results = #[.cell p 106]) (tmps:Array Value) (w:World) (g:Nat) (x y z u:Value) (A:tmps.getD p undef = .pointer (some ⟨g,0,none⟩)) (F:w.cell? ⟨g,0,none⟩=some x) (E:w.cell? ⟨g,1,none⟩=some y) (m:w.cell? ⟨g,2,none⟩=some z) (D:w.cell? ⟨g,3,none⟩=some u) :
  (results d tmps).run Tryz.prog w = .ok (.agg #[x,y,z,u]) w:=by
 have c:tmps[p]?.getD undef = .pointer (some ⟨g,0,none⟩):=by simpa using A
 simp[results,h,c,asAddr,go_sem,F,E,m,D]
theorem qyo {d:Func} {p:Tmp} (h:d.results = #[.cell p 40]) (tmps:Array Value) (w:World) (g:Nat) (x y:Value) (m:tmps.getD p undef = .pointer (some ⟨g,0,none⟩)) (A:w.cell? ⟨g,0,none⟩=some x) (u:w.cell? ⟨g,1,none⟩=some y) :
  (results d tmps).run Tryz.prog w = .ok (.agg #[x,y]) w:=by
 have c:tmps[p]?.getD undef = .pointer (some ⟨g,0,none⟩):=by simpa using m
 simp[results,h,c,asAddr,go_sem,A,u]
theorem qsa {d:Func} {p:Tmp} (h:d.results = #[.cell p 25]) (tmps:Array Value) (w:World) (g:Nat) (x y z:Value) (u:tmps.getD p undef = .pointer (some ⟨g,0,none⟩)) (D:w.cell? ⟨g,0,none⟩=some x) (A:w.cell? ⟨g,1,none⟩=some y) (m:w.cell? ⟨g,2,none⟩=some z) :
  (results d tmps).run Tryz.prog w = .ok (.agg #[x,y,z]) w:=by
 have c:tmps[p]?.getD undef = .pointer (some ⟨g,0,none⟩):=by simpa using u
 simp[results,h,c,asAddr,go_sem,D,A,m]
theorem at_c (g:Int) (w:World):Calls Tryz.prog 73 #[.int .i64 g] w λe w'=>e = .returned (.agg #[.int .i64 g,.slice none 0 0])/\Ext w w':=by
 go_enter Tryz.func73,Tryz.ntmps73
 go_wp2_with fail
 exact bodyPost_ret (qvn rfl _ _ w.heap.size _ _ rfl (by go_simp) (by go_simp)) rfl ⟨rfl,bel⟩
theorem qi9 (f g t:Int) (w:World):Calls Tryz.prog 75 #[.int .i64 f,.int .i64 g,.int .i64 t] w λe w'=>e = .returned (.agg #[.int .i64 f,.int .i64 g,.slice none 0 0,.int .i64 t])/\Ext w w':=by
 go_enter Tryz.func75,Tryz.ntmps75
 go_wp2_with fail
 refine(at_c g _).mono ?_;rintro e m ⟨rfl,A⟩;have d:qaf m w.heap.size 106 [.int .i64 0,.int .i64 0,.slice none 0 0,.int .i64 0]:=(qaf.new w 106 _).ext A;have E:=d.cell 0 _;have J:=d.cell 1 _;have c2:=d.cell 2 _;have c3:=d.cell 3 _;have I:=d.frozen 0;have F:=d.frozen 1;have D:=d.frozen 2;have G:=d.frozen 3;have u:Ext w m:=bel
 go_wp2_with fail
 have c:=(((d.set 0 (.int .i64 f)).set 1 (.int .i64 g)).set 2 (.slice none 0 0)).set 3 (.int .i64 t);exact bodyPost_ret (qxw rfl _ _ w.heap.size _ _ _ _ rfl (c.cell 0 _) (c.cell 1 _) (c.cell 2 _) (c.cell 3 _)) rfl ⟨rfl,(((u.set (p:=⟨w.heap.size,0,none⟩) (Nat.le_refl _) _).set (p:=⟨w.heap.size,1,none⟩) (Nat.le_refl _) _).set (p:=⟨w.heap.size,2,none⟩) (Nat.le_refl _) _).set (p:=⟨w.heap.size,3,none⟩) (Nat.le_refl _) _⟩
theorem test_c (v u:Value) (A B:Option Addr) (m n c d:Nat) (D:v = .slice A m c) (E:u = .slice B n d) (w:World):Calls Tryz.prog 76 #[v,u] w λe w'=>e = .returned (.agg #[v,u])/\Ext w w':=by
 subst D E
 go_enter Tryz.func76,Tryz.ntmps76
 go_wp2_with fail
 exact bodyPost_ret (qyo rfl _ _ w.heap.size _ _ rfl (by go_simp) (by go_simp)) rfl ⟨rfl,bel⟩
end
section
open Go.Shelf
def qq3 (s:Sy) (w:World) (e:Ending) (w':World):Prop:=∃cs,e = .returned (.agg cs.toArray)/\RSy (λb=>w.heap.size<=b) w' s cs/\Ext w w'
theorem built_c (S:Nat->Prop) (n:Int) (hn:1<=n/\n<=20000) (rs:List Ar) (v:Value) (w:World) (Y:RSl RAr 4 S w rs [v]) (M:∀a∈rs,(0<=a.f/\a.f<n)/\0<=a.t/\a.t<n) (L:∀a∈rs,qa0 a.l=true/\a.l.size<=1000000000) (N:rs.length<=100000)
  (hl:(qas rs [] []).1.length<=12) (I:qic (qdi qbf (edR (qas rs [] []).1 (qas rs [] []).2))):Calls Tryz.prog 74 #[.int .i64 n,v] w (qq3 (qcv n rs) w):=by
 obtain⟨A,c,rfl,hc,ag⟩:=Y.val;have D:=λW (hW:Ext w W)=>build_c S n hn rs _ W ((RSl.good RAr.good).bel Y hW) M L N (by omega) (sortOK12 hl) (compOK_nd I)
 obtain⟨s,hs⟩:=nm (qcv n rs);have HS:=Hd hs;clear Y M L I hs
 go_enter Tryz.func74,Tryz.ntmps74
 go_wp2_with fail
 refine(D _ bel).mono ?_;rintro e X ⟨cs,rfl,m,F⟩;rw[HS.out]at m;obtain⟨j1,v1,v2,rfl,J,G⟩:=id m;obtain⟨O,V,rfl,_,_⟩:=J.val;obtain⟨U,c2,rfl,_,_⟩:=G.val;have d:qaf X w.heap.size 25 [.int .i64 0,.slice none 0 0,.slice none 0 0]:=(qaf.new w 25 _).ext F;have r0:=d.cell 0 _;have r1:=d.cell 1 _;have r2:=d.cell 2 _;have ad:=d.frozen 0;have ae:=d.frozen 1;have ac:=d.frozen 2;have af:=d.lt;have HB:=Hd d;have aa:=Hd m;have HX:Hid (Ext w X):=((Ext.refl w).alloc _).trans' F;clear J G m d F D
 go_wp2_with fail
 have ab:=((HB.out.set 0 (.int .i64 s.n)).set 1 (.slice O s.ls.length V)).set 2 (.slice U s.es.length c2)
 have u:Bt (λq=>q=w.heap.size) X (((X.setCell ⟨w.heap.size,0,none⟩ (.int .i64 s.n)).setCell ⟨w.heap.size,1,none⟩ (.slice O s.ls.length V)).setCell ⟨w.heap.size,2,none⟩ (.slice U s.es.length c2)) :=
  Bt.set (Z:=λq=>q=w.heap.size) (p:=⟨w.heap.size,2,none⟩) (Bt.set (Z:=λq=>q=w.heap.size) (p:=⟨w.heap.size,1,none⟩) (Bt.set (Z:=λq=>q=w.heap.size) (p:=⟨w.heap.size,0,none⟩) (Bt.refl _ _) (.inr rfl) _) (.inr rfl) _) (.inr rfl) _
 have E:=ab.ext ((Ext.refl _).alloc (.cells #[.int .i64 s.n,.slice O s.ls.length V,.slice U s.es.length c2] 25));refine bodyPost_ret (qsa rfl _ _ w.heap.size _ _ _ rfl (E.cell 0 _) (E.cell 1 _) (E.cell 2 _)) rfl ⟨[.int .i64 s.n,.slice O s.ls.length V,.slice U s.es.length c2],rfl,?_,(Bt.new HX.out u λq _ h=>by omega).alloc _⟩;rw[HS.out];refine RSy.good.mono (RSy.good.bel (RSy.good.move aa.out (u.kp λq _ h h'=>?_)) ((Ext.refl _).alloc _)) λb _ h=>?_
 .simp only[World.size_alloc]at h;omega
 simp only[World.size_alloc]at h;omega
end
section
/- The law's few,slight,small,light: walked. -/
open Go.Shelf
mutual
def visT:Tm->Int->Int->Bool×Int
 | .mk _ _ l,d,c=>if 0<=IntKind.i64.wrap (c-1)/\d<100 then (!(visL l (d+1) (IntKind.i64.wrap (c-1))).1,(visL l (d+1) (IntKind.i64.wrap (c-1))).2) else (false,IntKind.i64.wrap (c-1))
def visL:List Tm->Int->Int->Bool×Int
 | [],_,c=>(false,c)
 | t :: ts,d,c=>if !(visT t d c).1 then (true,(visT t d c).2) else visL ts d (visT t d c).2
end
theorem visT_eq (t:Tm) (d c:Int):visT t d c=if 0<=IntKind.i64.wrap (c-1)/\d<100 then (!(visL t.l (d+1) (IntKind.i64.wrap (c-1))).1,(visL t.l (d+1) (IntKind.i64.wrap (c-1))).2) else (false,IntKind.i64.wrap (c-1)):=by cases t;rw[visT];rfl
def qgg (d:Int) (c:Int) (t:Tm):Bool×Int:=(!(visT t d c).1,(visT t d c).2)
theorem qw0 (d:Int):∀(l:List Tm) (c:Int),qc9 (qgg d) c l=visL l d c
 | [],c=>by rw[visL];rfl
 | t :: ts,c=>by
  rw[qc9,visL,qw0 d ts];rfl
structure qee (Bc Bf:Nat) (W0:World) (c:Int) (W:World):Prop where
 bt:Bt (λq=>q=Bc) W0 W
 box:qaf W Bc 3 [.int .i64 c]
 i64:I64 c
 fn:W0.cell? ⟨Bf,0,none⟩=some (.func (.func 136) #[] #[.pointer (some ⟨Bc,0,none⟩),.pointer (some ⟨Bf,0,none⟩)])
 ne:Bf≠Bc
theorem qee.ext {m d:Nat} {W0 W W':World} {c:Int} (h:qee m d W0 c W) (u:Ext W W'):qee m d W0 c W':=⟨h.bt.ext u,h.box.ext u,h.i64,h.fn,h.ne⟩
theorem qee.fn' {m d:Nat} {W0 W:World} {c:Int} (h:qee m d W0 c W):W.cell? ⟨d,0,none⟩=some (.func (.func 136) #[] #[.pointer (some ⟨m,0,none⟩),.pointer (some ⟨d,0,none⟩)]):=h.bt.cell h.fn h.ne
theorem wrap_i64 (n:Int):I64 (IntKind.i64.wrap n):=by unfold I64;simp[IntKind.wrap,IntKind.bits,IntKind.signed];omega
theorem eg138:∀args w,(callFunc 138 args).run Tryz.prog w = .ok (.enter 138 args) w:=enters_of Tryz.func138 (by kernel_rfl) rfl
theorem eg139:∀args w,(callFunc 139 args).run Tryz.prog w = .ok (.enter 139 args) w:=enters_of Tryz.func139 (by kernel_rfl) rfl
def VisC (t:Tm):Prop:=∀(S:Nat->Prop) (Bc Bf:Nat) (W0 W:World) (cs:List Value) (d c:Int),RTm S W t cs->(∀q,S q->q≠Bc)->0<=d->d<=100->qee Bc Bf W0 c W ->
 Calls Tryz.prog 136 #[.agg cs.toArray,.int .i64 d,.pointer (some ⟨Bc,0,none⟩),.pointer (some ⟨Bf,0,none⟩)] W λe w'=>e = .returned (.bool (visT t d c).1)/\qee Bc Bf W0 (visT t d c).2 w'/\Bt (λq=>q=Bc) W w'
theorem vis2_c (t:Tm) (J:VisC t) (S:Nat->Prop) (u E N:Nat) (W0 W:World) (cs:List Value) (d c:Int) (F:RTm S W t cs) (hS:∀q,S q->q≠u) (U:0<=d) (aa:d<100) (G:qee u E W0 c W) (hd:W.cell? ⟨N,0,none⟩=some (.int .i64 d)) :
  Calls Tryz.prog 138 #[.agg cs.toArray,.pointer (some ⟨E,0,none⟩),.pointer (some ⟨N,0,none⟩)] W λe w'=>e = .returned (.bool (qgg (d+1) c t).1)/\qee u E W0 (qgg (d+1) c t).2 w'/\Bt (λq=>q=u) W w':=by
 obtain⟨i1,i2,v,rfl,L⟩:=(qa6 ..).1 F;obtain⟨A,k,rfl,_,_⟩:=L.val;have m:=λW' (M:Ext W W')=>J S u E W0 W' _ (d+1) c (RTm.good.bel F M) hS (by omega) (by omega) (G.ext M)
 have X:=G.fn';have ab:=World.block_lt_of_cell? W _ X;have V:=World.block_lt_of_cell? W _ hd;unfold qgg;obtain⟨r,hr⟩:=nm (visT t (d+1) c);rw[hr]at m ⊢;obtain⟨b,c'⟩:=r;clear F L G hr J
 go_enter Tryz.func138,Tryz.ntmps138
 go_wp2_with fail
 refine(m _ bel).mono ?_;rintro e w1 ⟨rfl,O,D⟩;have Y:=Hd O;have I:Hid (Bt (λq=>q=u) W w1):=Bt.trans (by exact btt) D;clear O D
 go_wp2_with fail
 go_ret;exact⟨rfl,Y.out,I.out⟩
theorem vis_of (t:Tm) (ht:∀x∈t.l,VisC x):VisC t:=by
 intro S m Y W0 w cs d c hx hS ah au E;obtain⟨i1,i2,v,rfl,hv⟩:=(qa6 ..).1 hx;obtain⟨A,k,rfl,_,_⟩:=hv.val;have q0:=E.box.cell 0 _;have qf:=E.box.frozen 0;have aq:=E.box.lt;obtain⟨F,ab⟩:=nm (IntKind.i64.wrap (c-1));have U:I64 F:=ab ▸ wrap_i64 _;have G:=visT_eq t d c;rw[ab]at G
 by_cases D:0<=F/\d<100
 .rw [if_pos D]at G;have hB:∀W,Ext w W->qee m Y W0 F (W.setCell ⟨m,0,none⟩ (.int .i64 F)):=λW N=>⟨Bt.set (Z:=λq=>q=m) (p:=⟨m,0,none⟩) (E.bt.ext N) (.inr rfl) _,(E.box.ext N).set 0 _,U,E.fn,E.ne⟩
  have u:∀W:World,Bt (λq=>q=m) W (W.setCell ⟨m,0,none⟩ (.int .i64 F)):=λW=>Bt.set (Z:=λq=>q=m) (p:=⟨m,0,none⟩) (Bt.refl _ _) (.inr rfl) _
  have I:=λ(W:World) (Bd:Nat) (N:qee m Y W0 F W) (hl:qar S W t.l [.slice A t.l.length k]) (an:W.cell? ⟨Bd,0,none⟩=some (.int .i64 d)) (aj:¬ Bd=m) =>
   conFTm (λs W'=>qee m Y W0 s W'/\Bt (λq=>q=m) W W') (qgg (d+1)) S W t.l _ hl 138 #[.pointer (some ⟨Y,0,none⟩),.pointer (some ⟨Bd,0,none⟩)] eg138 (λs W' h=>h.2.kp λq _ hq=>hS q hq)
    (λx hx s cs W' hs hr=>(vis2_c x (ht x hx) S m Y Bd W0 W' cs d s hr hS ah D.2 hs.1 (hs.2.cell an aj)).mono λe w' h=>⟨h.1,h.2.1,hs.2.trans h.2.2⟩) F ⟨N,Bt.refl _ _⟩
  rw[qw0]at I;obtain⟨r,hr⟩:=nm (visL t.l (d+1) F);rw[hr]at I G;have L:=Hd G;have aw:=D.1;have ax:=D.2;obtain⟨Ws,J⟩:=nm (w.setCell ⟨m,0,none⟩ (.int .i64 F));have u:Bt (λq=>q=m) w Ws:=by rw[<- J];exact Bt.set (Z:=λq=>q=m) (p:=⟨m,0,none⟩) (Bt.refl _ _) (.inr rfl) _
  have ac:qaf Ws m 3 [.int .i64 F]:=by rw[<- J];exact E.box.set 0 _
  have ai:Ws.heap.size=w.heap.size:=by rw[<- J];simp[World.setCell]
  obtain⟨Wc,aa,ap,O,X,av⟩:=qnb Ws (.cells #[.int .i64 t.k,.int .i64 t.n,.slice A t.l.length k] 159) (.cells #[.int .i64 d] 3);have V:Bt (λq=>q=m) w Wc:=u.ext X;have af:qee m Y W0 F Wc:=⟨E.bt.trans V,ac.ext X,U,E.fn,E.ne⟩
  have ae:qar S Wc t.l [.slice A t.l.length k]:=qar.good.move hv (V.kp λq _ hq=>hS q hq);have M:qaf Wc (w.heap.size+1) 3 [.int .i64 d]:=by rw[<- ai];exact O
  have ad:=I Wc (w.heap.size+1) af ae (M.cell 0 _) (by omega);have am:=Hd V;have ak:=Hd J;have ao:=Hd aa;clear J aa;clear hx hv E G hr ht D I u ac ap O X af ae M
  go_enter Tryz.func136,Tryz.ntmps136
  go_wp2_with fail
  rw[ak.out,ao.out];refine ad.mono ?_;rintro e w5 ⟨rfl,h5,ag⟩;have H5:=Hd h5;have al:=Hd ag;obtain⟨rb,rc⟩:=r;clear h5 ag
  go_wp2_with fail
  go_ret;exact⟨by rw[L.out];rfl,by rw[L.out];exact H5.out,am.out.trans al.out⟩
 rw[if_neg D]at G;have L:=Hd G;have HI:=Hd E;have u:Bt (λq=>q=m) w (w.setCell ⟨m,0,none⟩ (.int .i64 F)):=Bt.set (Z:=λq=>q=m) (p:=⟨m,0,none⟩) (Bt.refl _ _) (.inr rfl) _;have HF:Hid (∀W,Ext (w.setCell ⟨m,0,none⟩ (.int .i64 F)) W->qee m Y W0 F W/\Bt (λq=>q=m) w W):=λW N=>⟨⟨(E.bt.trans u).ext N,(E.box.set 0 _).ext N,U,E.fn,E.ne⟩,u.ext N⟩
 clear hx hv E G ht u
 by_cases h0:0<=F
 .have hd:¬ d<100:=λh=>D ⟨h0,h⟩
  clear D
  go_enter Tryz.func136,Tryz.ntmps136
  go_wp2_with fail
  go_ret;rw[L.out];exact⟨rfl,HF.out _ bel⟩
 clear D
 go_enter Tryz.func136,Tryz.ntmps136
 go_wp2_with fail
 go_ret;rw[L.out];exact⟨rfl,HF.out _ bel⟩
theorem vis_c:∀t,VisC t:=Tm.ind λt ih=>vis_of t ih
end
section
/- The law's few,slight: walked. -/
open Go.Shelf
theorem few2_c (t:Tm) (S:Nat->Prop) (m D:Nat) (W0 W:World) (cs:List Value) (c:Int) (E:RTm S W t cs) (hS:∀q,S q->q≠m) (F:qee m D W0 c W) :
  Calls Tryz.prog 139 #[.agg cs.toArray,.pointer (some ⟨D,0,none⟩)] W λe w'=>e = .returned (.bool (qgg 0 c t).1)/\qee m D W0 (qgg 0 c t).2 w'/\Bt (λq=>q=m) W w':=by
 obtain⟨V,Y,v,rfl,I⟩:=(qa6 ..).1 E;obtain⟨A,k,rfl,_,_⟩:=I.val;have d:=λW' (J:Ext W W')=>vis_c t S m D W0 W' _ 0 c (RTm.good.bel E J) hS (by omega) (by omega) (F.ext J)
 have M:=F.fn';have O:=World.block_lt_of_cell? W _ M;unfold qgg;obtain⟨r,hr⟩:=nm (visT t 0 c);rw[hr]at d ⊢;obtain⟨b,X⟩:=r;clear E I F hr
 go_enter Tryz.func139,Tryz.ntmps139
 go_wp2_with fail
 refine(d _ bel).mono ?_;rintro e U ⟨rfl,L,u⟩;have N:=Hd L;have G:Hid (Bt (λq=>q=m) W U):=Bt.trans (by exact btt) u;clear L u
 go_wp2_with fail
 go_ret;exact⟨rfl,N.out,G.out⟩
def fewB (n:Int) (l:List Tm):Bool:=!(qc9 (qgg 0) n l).1
theorem few_c (S:Nat->Prop) (n:Int) (hn:I64 n) (l:List Tm) (v:Value) (w:World) (N:qar S w l [v]):Calls Tryz.prog 77 #[.int .i64 n,v] w λe w'=>e = .returned (.bool (fewB n l))/\Ext w w':=by
 obtain⟨A,k,rfl,_,_⟩:=N.val;have G:qar (λq=>q<w.heap.size) w l [.slice A l.length k]:=qar.good.mono N λb Y _=>Y
 have c:∀(m u:Nat) (W:World),Ext w W->m=w.heap.size->qee m u W n W->Calls Tryz.prog 137 #[.slice A l.length k,.func (.func 139) #[] #[.pointer (some ⟨u,0,none⟩)]] W λe w'=>e = .returned (.bool (qc9 (qgg 0) n l).1)/\Bt (λq=>q=m) W w':=λm u W X hB J =>
  (conFTm (λs W'=>qee m u W s W'/\Bt (λq=>q=m) W W') (qgg 0) (λq=>q<w.heap.size) W l _ (qar.good.bel G X) 139 #[.pointer (some ⟨u,0,none⟩)] eg139 (λs W' h=>h.2.kp λq _ O hz=>by omega)
   (λx _ s cs W' hs hr=>(few2_c x _ m u W W' cs s hr (λq O=>by omega) hs.1).mono λe w' h=>⟨h.1,h.2.1,hs.2.trans h.2.2⟩) n ⟨J,Bt.refl _ _⟩).mono λe w' h=>⟨h.1,h.2.2⟩
 obtain⟨r,hr⟩:=nm ((qc9 (qgg 0) n l).1);rw[hr]at c;have M:Hid (fewB n l = !r):=by show _=_;rw[<- hr];rfl
 clear N G hr
 go_enter Tryz.func77,Tryz.ntmps77
 go_wp2_with fail
 obtain⟨L,E,F,D,d,U⟩:=qnb w (.cells #[.int .i64 n] 3) (.cells #[.func (.func 136) #[] #[.pointer (some ⟨w.heap.size,0,none⟩),.pointer (some ⟨w.heap.size+1,0,none⟩)]] 179);rw[E];clear E;have J:qee w.heap.size (w.heap.size+1) L n L:=⟨Bt.refl _ _,F,hn,qaf.cell (show qaf L (w.heap.size+1) 179 _ from D) 0 _,by omega⟩
 refine(c _ _ L d rfl J).mono ?_;rintro e w5 ⟨rfl,I⟩;have V:Hid (Ext w w5):=Bt.new d I λq _ h=>by omega
 clear I J F D d c
 go_wp2_with fail
 go_ret;exact⟨by rw[M.out];rfl,V.out⟩
theorem pushN {α:Type} {R:Rdr α} {k:Nat} (J:Good R k) (hk:0<k) (base:Nat) (e ts:TypeId) (z:Value) (bs:Nat) (hu:Tryz.prog.underlying ts=some (.slice e)) (hi:(Tryz.prog.info? e).map (λi=>(i.zero,i.size,i.bytes))=some (some z,k,bs)) (Y:z.cells.size=k) (aa:bs<=1000)
  (T:Nat->Prop) (w:World) (xs ys:List α) (v u:Value) (d:qab R k e base T w xs v) (hy:RSl R k (λb=>T b/\v.ownBlock≠some b) w ys [u]) (E:base<=w.heap.size) (hl:xs.length+ys.length<=100000000) :
  ∃A c w',(Builtin.append_ #[ts,ts] ts #[v,u]).run Tryz.prog w = .ok (.slice A (xs++ys).length c) w'/\qab R k e base T w' (xs++ys) (.slice A (xs++ys).length c)/\Bt (λq=>v.ownBlock=some q) w w':=by
 obtain⟨i,hi,G⟩:=Option.map_eq_some_iff.1 hi;simp only[Prod.mk.injEq]at G;obtain⟨O,M,ac⟩:=G;obtain⟨A,c,V,hc,ag,h⟩:=hy;injection V with V
 subst V
 rcases A with _ | a
 .have ab:ys=[]:=by
   rcases h with h | ⟨b,U,h,_⟩
   .exact h
   cases h
  subst ab;obtain⟨L,c',rfl,_,_⟩:=(d.sl J hk).val;rw[List.append_nil];refine⟨L,c',w,?_,d,Bt.refl _ _⟩;obtain⟨news,m,_⟩:=d
  rcases m.2 with⟨F,I⟩ | ⟨g,ae,af,F,_,_,ad,_⟩
  .rw [F];simp[Builtin.append_,run_underlying hu,sizeOf,typeInfo,hi,Builtin.lenOf,Builtin.firstCells]
  rw[F];simp[Builtin.append_,run_underlying hu,sizeOf,typeInfo,hi,Builtin.lenOf,Builtin.firstCells,ad,storeCells]
 obtain⟨news,m,hF⟩:=d
 obtain⟨cs,N,D⟩:∃cs,Flat R k (λb=>T b/\v.ownBlock≠some b) w ys cs/\∀j u,cs[j]? = some u->w.cell? (a.add j)=some u:=by
  rcases h with rfl | ⟨b,U,ha,hb,hS,hr⟩
  .exact ⟨[],rfl,λj u h=>by simp at h⟩
  obtain⟨cs,F,I⟩:=hr.flat;injection ha with ha
  subst ha;exact⟨cs,F,λj u hj=>by rw[Addr.add_lit];exact I j u hj⟩
 obtain⟨v',w',hr,F,I,_,h4⟩:=run_append_own_at (P:=Tryz.prog) w base ts ts e i z k bs hu hi O M ac Y hk v xs.length news m a ys.length c cs N.len D (N.one J)
  (by unfold maxLen;omega) (Nat.le_trans (Nat.mul_le_mul (show xs.length+ys.length<=100000000 from hl) aa) (by decide)) E
 have hp:=qab.push J hF N F I h4;obtain⟨L,c',X,_,_⟩:=(hp.sl J hk).val;subst X;exact⟨L,c',w',hr,hp,(Bt.of_grown I).mono λq _ h=>h.symm⟩
end
section
open Go.Shelf
theorem wpList_append_run {P:Program} {w w':World} {c:Array Oper} {rest:List Oper} {o:Oper} {a:Act} {Q:Exit->Act->World->Prop} (d:o.guard=none) (s x:Operand) (t:TypeId)
  (A:o.op = .call { callee:=.builtin .append,args:=#[s,x],argTypes:=#[t,t] }) (v u r:Value) (hs:a.eval s=v) (hx:a.eval x=u) (hr:(Builtin.append_ #[t,t] o.type #[v,u]).run P w = .ok r w')
  (h:wpList P c Q rest (a.put o.dst r) w'):wpList P c Q (o :: rest) a w:=by
 refine wpList_plain d λK m=>?_
 unfold Oper.wp execOp;simp only[A,resolve,invoke,builtin,Sem.run_bind,Sem.run_pure,Result.andThen_ok,List.map_toArray,List.map_cons,List.map_nil,hs,hx,hr];exact m _ _ h
def qfp (ls:List Lb):Bool:=!(ls.any λx=>decide (20<x.v.length)) && (decide (ls.length<=100) && fewB 600 (ls.flatMap (·.v)))
theorem take_map {c:List Lb} {k:Nat} (h:k<c.length):(c.take k).flatMap (·.v)++c[k].v=(c.take (k+1)).flatMap (·.v)/\(c.take (k+1)).any (λx=>decide (20<x.v.length))=((c.take k).any (λx=>decide (20<x.v.length)) || decide (20<c[k].v.length)):=by
 rw[List.take_succ_eq_append_getElem h,List.flatMap_append,List.any_append];refine⟨?_,?_⟩
 .rw [List.flatMap_cons,List.flatMap_nil,List.append_nil]
 rw[List.any_cons,List.any_nil,Bool.or_false]
theorem qqa (S:Nat->Prop) (d:List Lb) (v:Value) (w:World) (hx:qaa S w d [v]) (ak:d.length<=4000000):Calls Tryz.prog 16 #[v] w λe w'=>e = .returned (.bool (qfp d))/\Ext w w':=by
 obtain⟨A,c,rfl,hc,an⟩:=hx.val;have ac:qaa (λq=>q<w.heap.size) w d [.slice A d.length c]:=qaa.good.mono hx λb hb _=>hb
 have HX:=Hd ac;clear hx ac
 go_enter Tryz.func16,Tryz.ntmps16
 go_wp2_with fail
 go_loopw [3,8] (λv3 vi wr=>∃(k:Nat) (ys:List Tm) (Ao:Option Addr) (co:Nat),k<=d.length/\vi = .int .i64 k/\v3 = .slice Ao ys.length co/\ys.length<=20*k/\Ext w wr/\Hid (qab RTm 3 159 w.heap.size (λq=>q<w.heap.size) wr ys (.slice Ao ys.length co))/\Hid (ys=(d.take k).flatMap (·.v)/\(d.take k).any (λx=>decide (20<x.v.length))=false)) (λ_ vi _=>d.length-(intOf vi).toNat)
 case atStart=>exact⟨0,[],none,0,Nat.zero_le _,rfl,rfl,by simp,Ext.refl _,qab.nil ..,by simp,by simp⟩
 obtain⟨k,ys,Ao,co,hk,rfl,rfl,am,hE,F,G⟩:=hrel
 by_cases M:k<d.length
 .obtain ⟨b,al,cs,rfl,hb,ae,hl,hr,m⟩:=(qaa.good.bel HX.out hE).get k M;obtain⟨j1,u,rfl,hu⟩:=id hr;obtain⟨a0,a1⟩:=g2 m;obtain⟨Au,cu,rfl,af,aj⟩:=hu.val;have D:=Hd (take_map M);have E:=Hd (List.getElem_mem M);obtain⟨x,L⟩:=nm (d[k]);rw[L]at a0 a1 hu af D E
  by_cases ab:20<x.v.length
  .have O:Hid (qfp d=false):=by
    show _=_;have:d.any (λx=>decide (20<x.v.length))=true:=List.any_eq_true.2 ⟨x,E.out,decide_eq_true ab⟩;rw[qfp,this];rfl
   clear hr hu hl m ae L F G D E
   go_wp2_with fail
   go_ret;exact⟨by rw[O.out];rfl,bel⟩
  have N:Ext wr (wr.alloc (.cells #[.int .i64 x.g,.slice Au x.v.length cu] 61)):=(Ext.refl wr).alloc _
  obtain⟨A2,c2,w2,ad,aa,Y⟩:=pushN RTm.good (by decide) w.heap.size 159 59 (.agg #[.int .i64 0,.int .i64 0,.slice none 0 0]) 40 Tryz.underlying59 qm4 rfl (by decide) (λq=>q<w.heap.size) _ ys x.v (.slice Ao ys.length co) _ (F.out.ext RTm.good N)
   ((RSl.good RTm.good).mono ((RSl.good RTm.good).bel hu N) λb _ h=>⟨h,λe=>by have:=(F.out.own_lt e).1;omega⟩) (by have:=hE.size;simp;omega) (by omega)
  have ai:=Hd aa;have U:∀q,(Value.slice Ao ys.length co).ownBlock=some q->w.heap.size<=q:=λq e=>(F.out.own_lt e).1
  have ah:Hid (Ext w w2):=Bt.new (hE.trans' N) Y λq _ h=>U q h
  have V:(ys++x.v).length<=20*(k+1):=by rw[List.length_append];omega
  have ag:Hid (ys++x.v=(d.take (k+1)).flatMap (·.v)/\(d.take (k+1)).any (λx=>decide (20<x.v.length))=false):=by
   refine⟨?_,?_⟩
   .rw [<- D.out.1,G.out.1]
   rw[D.out.2,G.out.2,decide_eq_false ab];rfl
  clear hr hu hl m ae L F aa Y U G D E
  go_wp2_with (at_builtin;refine wpList_append_run rfl _ _ _ rfl _ _ _ rfl rfl ad ?_;clear ad)
  go_roundw
  case rel=>exact⟨k+1,ys++x.v,A2,c2,by omega,by go_num,by rw[List.length_append],V,ah.out,ai.out,ag.out⟩
  simp[intOf];omega
 have X:=λW (hW:Ext wr W)=>few_c _ 600 (by unfold I64;omega) ys _ W ((RSl.good RTm.good).bel (F.out.sl RTm.good (by decide)) hW)
 have O:Hid (qfp d=(decide (d.length<=100) && fewB 600 ys)):=by
  show _=_;have h1:=G.out.1;have h2:=G.out.2;rw[List.take_of_length_le (by omega)]at h1 h2;rw[qfp,h2,h1];rfl
 by_cases I:d.length<=100
 .have J:Hid (qfp d=fewB 600 ys):=by
   show _=_;rw[O.out,decide_eq_true I,Bool.true_and]
  clear F G O
  go_wp2_with fail
  refine(X _ bel).mono ?_;rintro e w5 ⟨rfl,h5⟩
  go_wp2_with fail
  go_ret;exact⟨by rw[J.out];rfl,bel⟩
 have J:Hid (qfp d=false):=by
  show _=_;rw[O.out,decide_eq_false I,Bool.false_and]
 clear F G O
 go_wp2_with fail
 go_ret;exact⟨by rw[J.out];rfl,bel⟩
end
end Go.Proofs.YtegenalcheooeaaGreat
