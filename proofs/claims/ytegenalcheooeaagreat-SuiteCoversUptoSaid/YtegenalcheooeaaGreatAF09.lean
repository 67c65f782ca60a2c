/- Of the proof of a law of the suites: LPdqA, LPdqC, LPdqP, LPdqB, LPdqD, LPdqE, LSlice3, LSort16, LMut1, PBuild. -/
import Derived.Test.YtegenalcheooeaaGreatAF04
import Derived.Test.YtegenalcheooeaaGreatAF08
import Derived.Test.YtegenalcheooeaaGreatB11
import Derived.Test.YtegenalcheooeaaGreatB13
import Derived.Test.YtegenalcheooeaaGreatB14
import Derived.Test.YtegenalcheooeaaGreatB17
import Derived.Test.YtegenalcheooeaaGreatLaid
import Derived.Shelf.Small.Bits
import Derived.Ground.Names2Prog
import Derived.Deep.CutBlock
import Derived.Sort.AssemblyPlain
import Derived.Shelf.SlSortFunc.Xorshift
import Derived.Laws.Bits64b
set_option linter.unusedSectionVars false
set_option linter.unusedSimpArgs false
set_option linter.unusedVariables false
namespace Go.Proofs.YtegenalcheooeaaGreat
open Go.RowKit
attribute [local go_sem] cell?_exto
set_option maxHeartbeats 16000000
set_option maxRecDepth 100000
section
/- sort.Slice at whole numbers: the choice of a pivot,and the look at whether all is in order: walked. -/
open Go.Shelf Go.Sort Go.Lib
theorem Bt.side {Z:Nat->Prop} {a b c:World} {f:Nat} (h:Bt Z a b) (k:Bt (λq=>q=f) b c) (r:a.heap.size<=f):Bt Z a c :=
 ⟨k.os.trans h.os,k.tape.trans h.tape,k.output.trans h.output,Nat.le_trans h.size k.size,λq g o=>(k.block q (Nat.lt_of_lt_of_le g h.size) (by omega)).trans (h.block q g o)⟩
theorem qbv.side {f:Nat} {W o:World} {d:Array Int} {g n c r:Nat} (h:qbv f W d g n c) (k:Bt (λq=>q=r) W o) (u:g≠r):qbv f o d g n c :=
 qab.bt h qad.good k λq _ v=>⟨id,λe=>u ((show g=q by simpa[Value.ownBlock]using e).trans v)⟩
abbrev qjl (lf:Nat) (lb:Array Value) (sf:Nat) (sb:Array Value):Value:=.agg #[.func (.func lf) #[] lb,.func (.func sf) #[] sb]
def OrdP (i j gs:Nat) (k:Int) (w:World) (e:Ending) (w':World):Prop:=∃(x y:Nat) (k':Int),e = .returned (.tuple #[.int .i64 (x:Int),.int .i64 (y:Int)])/\((x=i/\y=j)\/(x=j/\y=i))/\k<=k'/\k'<=k+1/\qaf w' gs 3 [.int .i64 k']/\Bt (λq=>q=gs) w w'
theorem order2_c (y:Nat) (J:Array Value) (U:Nat) (T:Array Value) (lt:Int->Int->Bool) (p:Int->Prop) (u g n c i j A:Nat) (k:Int) (d:Array Int) (M w:World) (el:∀r w,(callFunc y r).run Tryz.prog w = .ok (.enter y r) w)
  (f:qey y J lt p u g n c M) (N:Bt (λq=>q=g) M w) (v:qbv u w d g n c) (X:d.size=n) (O:∀x∈d.toList,p x) (hn:n<=1000) (hi:i<n) (Y:j<n) (C:qaf w A 3 [.int .i64 k]) (hk:0<=k/\k<=100) :
  Calls Tryz.prog 327 #[qjl y J U T,.int .i64 i,.int .i64 j,.pointer (some ⟨A,0,none⟩)] w (OrdP i j A k w):=by
 have E:Ext w (w.alloc (.cells #[.func (.func y) #[] J,.func (.func U) #[] T] 299)):=(Ext.refl w).alloc _;have F:=f _ d (N.ext E) (v.ext qad.good E) X O j i Y hi;have z:=Hd C;have I:=Hd E;clear f N v O E C
 cases o:lt d[j]! d[i]! with
 | false =>
  rw[o]at F;clear o
  go_enter Tryz.func327,Tryz.ntmps327
  go_wp2_with (go_at_fn y;refine F.mono ?_;rintro e L ⟨rfl,G⟩)
  have D:Ext w L:=I.out.trans' G;go_ret2;exact⟨i,j,k,rfl,.inl ⟨rfl,rfl⟩,by omega,by omega,z.out.ext D,D.bt⟩
 | true =>
  rw[o]at F;clear o
  go_enter Tryz.func327,Tryz.ntmps327
  go_wp2_with (go_at_fn y;refine F.mono ?_;rintro e L ⟨rfl,G⟩;have B:=z.out.ext (I.out.trans' G);have x0:=B.cell 0 _;have xz:=B.lt;have xf:=B.frozen 0;have V:=Hd B;clear B)
  have D:Ext w L:=I.out.trans' G;go_ret2;exact⟨j,i,k+1,rfl,.inr ⟨rfl,rfl⟩,by omega,by omega,V.out.set 0 _,Bt.set (Z:=λq=>q=A) (p:=⟨A,0,none⟩) D.bt (.inr rfl) _⟩
def MedP (i j l gs:Nat) (k:Int) (w:World) (e:Ending) (w':World):Prop:=∃(x:Nat) (k':Int),e = .returned (.int .i64 (x:Int))/\(x=i\/x=j\/x=l)/\k<=k'/\k'<=k+3/\qaf w' gs 3 [.int .i64 k']/\Bt (λq=>q=gs) w w'
theorem median_c (D:Nat) (F:Array Value) (sf:Nat) (Y:Array Value) (lt:Int->Int->Bool) (p:Int->Prop) (o g n c i j l B:Nat) (k:Int) (d:Array Int) (L w:World) (el:∀A w,(callFunc D A).run Tryz.prog w = .ok (.enter D A) w)
  (u:qey D F lt p o g n c L) (M:Bt (λq=>q=g) L w) (f:qbv o w d g n c) (hd:d.size=n) (hp:∀x∈d.toList,p x) (hn:n<=1000) (hi:i<n) (hj:j<n) (hl:l<n) (r:qaf w B 3 [.int .i64 k]) (hk:0<=k/\k<=90) (T:g≠B) (C:L.heap.size<=B) :
  Calls Tryz.prog 321 #[qjl D F sf Y,.int .i64 i,.int .i64 j,.int .i64 l,.pointer (some ⟨B,0,none⟩)] w (MedP i j l B k w):=by
 have ho:=λW (M:Bt (λq=>q=g) L W) f x y hx hy kk r hk=>order2_c D F sf Y lt p o g n c x y B kk d L W el u M f hd hp hn hx hy r hk
 have E:Ext w (w.alloc (.cells #[.func (.func D) #[] F,.func (.func sf) #[] Y] 299)):=(Ext.refl w).alloc _;have hB:qaf (w.alloc (.cells #[.func (.func D) #[] F,.func (.func sf) #[] Y] 299)) w.heap.size 299 [.func (.func D) #[] F,.func (.func sf) #[] Y]:=qaf.new _ _ _;have an:=r.lt;have U:¬ w.heap.size=B:=by omega
 have V:=ho _ (M.ext E) (f.ext qad.good E) i j hi hj k (r.ext E) (by omega);have HW:=Hd (M.ext E);have HR:=Hd (f.ext qad.good E);have HO:=Hd ho;have HX:=Hd E;have HB:=Hd hB;clear u M f hp E r ho hB
 go_enter Tryz.func321,Tryz.ntmps321
 go_wp2_with fail
 refine V.mono ?_;rintro e w1 ⟨x,y,k1,rfl,ar,ao,aj,N,v⟩;have hx:x<n:=by omega
 have hy:y<n:=by omega
 have G:=Hd (HB.out.bt v U);obtain⟨b0,b1,bz⟩:=c2 G.out;have J:=Hd (HW.out.side v C);have I:=Hd (qbv.side HR.out v T);have X:=HO.out _ J.out I.out y l hy hl k1 N (by omega);have ac:=Hd v;clear v N V
 go_wp2_with fail
 refine X.mono ?_;rintro e w2 ⟨y2,z2,k2,rfl,au,ap,ak,O,z⟩;have ai:y2<n:=by omega
 clear b0 b1 bz;have aa:=Hd (G.out.bt z U);obtain⟨b0,b1,bz⟩:=c2 aa.out;have ae:=Hd (J.out.side z C);have ab:=Hd (qbv.side I.out z T);have ag:=HO.out _ ae.out ab.out x y2 hx ai k2 O (by omega);have ad:=Hd (ac.out.trans z);clear z O X
 go_wp2_with fail
 refine ag.mono ?_;rintro e w3 ⟨x3,y3,k3,rfl,am,aq,al,af,ah⟩
 go_wp2_with fail
 go_ret;exact⟨y3,k3,rfl,by omega,by omega,by omega,af,(Ext.bt (Z:=λq=>q=B) HX.out).trans (ad.out.trans ah)⟩
end
section
open Go.Shelf Go.Sort Go.Lib
structure Prt (lt:Int->Int->Bool) (a b:Nat) (d:Array Int) (i j:Nat) (dk:Array Int):Prop where
 ai:a<i
 ij:i<=j+1
 jb:j<b
 bs:b<=d.size
 perm:PermIn a b d dk
 lo:∀k,a<k->k<i->lt dk[k]! dk[a]! = true
 hi:∀k,j<k->k<b->lt dk[k]! dk[a]! = false
variable {lt:Int->Int->Bool} {a b:Nat} {d:Array Int} {i j:Nat} {dk:Array Int}
theorem Prt.size (h:Prt lt a b d i j dk):dk.size=d.size:=h.perm.1
theorem Prt.up (h:Prt lt a b d i j dk) (f:i<=j) (o:lt dk[i]! dk[a]! = true):Prt lt a b d (i+1) j dk :=
 ⟨by have:=h.ai;omega,by omega,h.jb,h.bs,h.perm,λk c q=>by
  by_cases g:k=i
  .rw [g];exact o
  exact h.lo k c (by omega),h.hi⟩
theorem Prt.down (h:Prt lt a b d i j dk) (f:i<=j) (o:lt dk[j]! dk[a]! = false):Prt lt a b d i (j-1) dk :=
 ⟨h.ai,by omega,by have:=h.jb;omega,h.bs,h.perm,h.lo,λk q c=>by
  by_cases g:k=j
  .rw [g];exact o
  exact h.hi k (by omega) c⟩
theorem Prt.start (o:a<=i) (hi:i<b) (c:b<=d.size):Prt lt a b d (a+1) (b-1) (swp d a i) :=
 ⟨by omega,by omega,by omega,c,swp_permIn d a b a i (Nat.le_refl _) (by omega) o hi c,λk f g=>by omega,λk f g=>by omega⟩
theorem Prt.swap (h:Prt lt a b d i j dk) (v:i<=j) (c:lt dk[i]! dk[a]! = false) (o:lt dk[j]! dk[a]! = true):i<j/\Prt lt a b d (i+1) (j-1) (swp dk i j):=by
 have w:i≠j:=λe=>by rw[e,o]at c;cases c
 have hs:=h.size;have u:=h.bs;have z:=h.jb;have y:=h.ai;have g:=swp_get dk (i:=i) (j:=j) (by omega) (by omega);have f:(swp dk i j)[a]! = dk[a]! := by rw[g,if_neg (by omega),if_neg (by omega)]
 refine⟨by omega,by omega,by omega,by omega,u,permIn_trans _ _ _ a b h.perm (swp_permIn dk a b i j (by omega) (by omega) (by omega) (by omega) (by omega)),λk q r=>?_,λk q r=>?_⟩
 .rw [f,g]
  by_cases e:k=i
  .rw [if_neg (by omega),if_pos e];exact o
  rw[if_neg (by omega),if_neg e];exact h.lo k q (by omega)
 rw[f,g]
 by_cases e:k=j
 .rw [if_pos e];exact c
 rw[if_neg e,if_neg (by omega)];exact h.hi k (by omega) r
structure Prtd (lt:Int->Int->Bool) (a b:Nat) (d:Array Int) (m:Nat) (d':Array Int):Prop where
 am:a<=m
 mb:m<b
 perm:PermIn a b d d'
 lo:∀k,a<=k->k<m->lt d'[k]! d'[m]! = true
 hi:∀k,m<k->k<b->lt d'[k]! d'[m]! = false
theorem Prt.done (h:Prt lt a b d i j dk) (o:j<i):Prtd lt a b d j (swp dk j a):=by
 have hs:=h.size;have u:=h.bs;have v:=h.jb;have r:=h.ai;have hi:=h.ij;have g:=swp_get dk (i:=j) (j:=a) (by omega) (by omega)
 have c:(swp dk j a)[j]! = dk[a]! := by
  rw[g]
  by_cases e:j=a
  .rw [if_pos e,e]
  rw[if_neg e,if_pos rfl]
 refine⟨by omega,by omega,permIn_trans _ _ _ a b h.perm (swp_permIn dk a b j a (by omega) (by omega) (by omega) (by omega) (by omega)),λk q f=>?_,λk q f=>?_⟩
 .rw [c,g]
  by_cases e:k=a
  .rw [if_pos e];exact h.lo j (by omega) (by omega)
  rw[if_neg e,if_neg (by omega)];exact h.lo k (by omega) (by omega)
 rw[c,g,if_neg (by omega),if_neg (by omega)];exact h.hi k (by omega) f
structure StR (base g n c:Nat) (p:Int->Prop) (W1:World) (dk:Array Int) (W:World):Prop where
 row:qbv base W dk g n c
 size:dk.size=n
 all:∀x∈dk.toList,p x
 bt:Bt (λq=>q=g) W1 W
theorem StR.ext {f g n c:Nat} {p:Int->Prop} {q W o:World} {dk:Array Int} (h:StR f g n c p q dk W) (r:Ext W o):StR f g n c p q dk o:=⟨h.row.ext qad.good r,h.size,h.all,h.bt.ext r⟩
theorem StR.less {r:Nat} {q:Array Value} {lt:Int->Int->Bool} {f g n c:Nat} {p:Int->Prop} {o W:World} {dk:Array Int} (h:StR f g n c p o dk W) (v:qey r q lt p f g n c o) (i j:Nat) (hi:i<n) (u:j<n) :
  Calls Tryz.prog r (#[.int .i64 i,.int .i64 j]++q) W λe w=>e = .returned (.bool (lt dk[i]! dk[j]!))/\Ext W w:=v W dk h.bt h.row h.size h.all i j hi u
theorem StR.swap {w:Nat} {v:Array Value} {f g n c:Nat} {p:Int->Prop} {q W:World} {dk:Array Int} (h:StR f g n c p q dk W) (hs:qhv w v f g n c) (i j:Nat) (hi:i<n) (u:j<n) (y:2<=n) :
  ∃o,(callFunc w (#[.int .i64 i,.int .i64 j]++v)).run Tryz.prog W = .ok (.value (.tuple #[])) o/\StR f g n c p q (swp dk i j) o:=by
 have r:=qbv.swap h.row h.size hi u;exact⟨_,hs W dk h.row h.size i j hi u y,r.1,by rw[<- h.size];simp[swp],qpm h.all (by have:=h.size;omega) (by have:=h.size;omega),h.bt.trans r.2⟩
def PartP (lt:Int->Int->Bool) (base g n c:Nat) (p:Int->Prop) (a b:Nat) (d:Array Int) (w:World) (e:Ending) (w':World):Prop:=∃(m:Nat) (fl:Bool) (d':Array Int),e = .returned (.tuple #[.int .i64 (m:Int),.bool fl])/\Prtd lt a b d m d'/\StR base g n c p w d' w'
theorem qx1 (T:Nat) (lb:Array Value) (sf:Nat) (sb:Array Value) (lt:Int->Int->Bool) (p:Int->Prop) (r g n c a b U:Nat) (d:Array Int) (w:World) (el:∀ah w,(callFunc T ah).run Tryz.prog w = .ok (.enter T ah) w)
  (aa:qey T lb lt p r g n c w) (z:qhv sf sb r g n c) (aj:qbv r w d g n c) (hd:d.size=n) (hp:∀x∈d.toList,p x) (hn:n<=1000) (ha:a<=U) (aF:U<b) (aG:b<=n) (h2:2<=n) (hg:g<w.heap.size) :
  Calls Tryz.prog 305 #[qjl T lb sf sb,.int .i64 a,.int .i64 b,.int .i64 U] w (PartP lt r g n c p a b d w):=by
 obtain⟨D,an⟩:=nm (w.alloc (.cells #[.func (.func T) #[] lb,.func (.func sf) #[] sb] 299));have ae:Ext w D:=by rw[<- an];exact(Ext.refl w).alloc _
 have hB:qaf D w.heap.size 299 [.func (.func T) #[] lb,.func (.func sf) #[] sb]:=by rw[<- an];exact qaf.new w _ _
 obtain⟨b0,b1,bz⟩:=c2 hB;have af:=aa.on ae.bt;have G:¬ (w.heap.size=g):=by omega
 have ay:StR r g n c p D d D:=⟨aj.ext qad.good ae,hd,hp,Bt.refl _ _⟩
 obtain⟨W2,av,ac⟩:=ay.swap z a U (by omega) (by omega) h2;have ag:Prt lt a b d (a+1) (b-1) (swp d a U):=Prt.start ha aF (by omega);obtain⟨A,aq⟩:=nm (swp d a U);rw[aq]at ac ag;obtain⟨C,au⟩:=nm (b-1);have yb:((b:Int)-1)=(C:Int):=by omega
 rw[au]at ag;have aA:=Hd ag;have aE:=Hd ac;have aB:=Hd av;have HB:=Hd hB;have HX:Hid (Bt (λq=>q=g) w D):=ae.bt;clear aa aj hp ae ay ac ag av aq hB au
 go_enter Tryz.func305,Tryz.ntmps305
 go_wp2_with fail
 rw[aB.out,Oper.upon_value];clear b0 b1 bz an
 go_upto_block 0 with (fail)
 go_cut [10] (λM wx=>∃i:Nat,M = .int .i64 (i:Int)/\0<=i/\Hid (Prt lt a b d i C A)/\Hid (C<i\/lt A[i]! A[a]! = false)/\Hid (StR r g n c p D A wx))
 case first =>
  go_wp2_with fail
  go_loopw [10] (λF wr=>∃i:Nat,F = .int .i64 (i:Int)/\0<=i/\Hid (Prt lt a b d i C A)/\Hid (StR r g n c p D A wr)) (λF _=>b-(intOf F).toNat)
  case atStart=>exact⟨a+1,by go_num,Nat.zero_le _,aA.out,aE.out⟩
  obtain⟨i,rfl,J,f,hS⟩:=hrel;have u:=HB.out.bt hS.out.bt G;obtain⟨c0,c1,cz⟩:=c2 u;clear u;have k1:=f.out.ai;have k2:=f.out.jb;have k3:=f.out.ij
  by_cases v:i<=C
  .have B:=hS.out.less af i a (by omega) (by omega)
   cases o:lt A[i]! A[a]! with
   | true =>
    rw[o]at B;have HN:=Hd (f.out.up v o);clear o f
    go_wp2_with (go_at_fn T;refine B.mono ?_;rintro e w' ⟨rfl,L⟩)
    go_roundw
    case rel=>exact⟨i+1,by go_num,by omega,HN.out,hS.out.ext L⟩
    simp[intOf];omega
   | false =>
    rw[o]at B;have HV:=Hd o;clear o
    go_wp2_with (go_at_fn T;refine B.mono ?_;rintro e w' ⟨rfl,L⟩)
    go_meet
    exact⟨i,rfl,J,f,.inr HV.out,hS.out.ext L⟩
  go_wp2_with fail
  go_meet
  exact⟨i,rfl,J,f,.inl (by omega),hS⟩
 obtain⟨i,rfl,J,f,hi,hS⟩:=hcut
 go_upto_block 2 with (fail)
 go_cut [11] (λN wx=>∃j:Nat,N = .int .i64 (j:Int)/\j<=C/\Hid (Prt lt a b d i j A)/\Hid (j<i\/lt A[j]! A[a]! = true)/\Hid (StR r g n c p D A wx))
 case first =>
  go_wp2_with fail
  go_loopw [11] (λF wr=>∃j:Nat,F = .int .i64 (j:Int)/\j<=C/\Hid (Prt lt a b d i j A)/\Hid (StR r g n c p D A wr)) (λF _=>(intOf F).toNat)
  case atStart=>exact⟨C,rfl,Nat.le_refl _,f,hS⟩
  obtain⟨j,rfl,I,f,hS⟩:=hrel;have u:=HB.out.bt hS.out.bt G;obtain⟨c0,c1,cz⟩:=c2 u;clear u;have k1:=f.out.ai;have k2:=f.out.jb;have k3:=f.out.ij
  by_cases v:i<=j
  .have B:=hS.out.less af j a (by omega) (by omega)
   cases o:lt A[j]! A[a]! with
   | false =>
    rw[o]at B;have HN:=Hd (f.out.down v o);clear o f
    go_wp2_with (go_at_fn T;refine B.mono ?_;rintro e w' ⟨rfl,L⟩)
    go_roundw
    case rel=>exact⟨j-1,by go_num,by omega,HN.out,hS.out.ext L⟩
    simp[intOf];omega
   | true =>
    rw[o]at B;have HV:=Hd o;clear o
    go_wp2_with (go_at_fn T;refine B.mono ?_;rintro e w' ⟨rfl,L⟩)
    go_meet
    exact⟨j,rfl,I,f,.inr HV.out,hS.out.ext L⟩
  go_wp2_with fail
  go_meet
  exact⟨j,rfl,I,f,.inl (by omega),hS⟩
 clear f hS;obtain⟨j,rfl,I,f,hj,hS⟩:=hcut;have k1:=f.out.ai;have k2:=f.out.jb;have k3:=f.out.ij;have u:=HB.out.bt hS.out.bt G;obtain⟨c0,c1,cz⟩:=c2 u;clear u
 by_cases v:j<i
 .obtain ⟨W3,ab,E⟩:=hS.out.swap z j a (by omega) (by omega) h2;have am:=Hd ab;have y:=Hd E;have HD:=Hd (f.out.done v);clear ab E hi hj
  go_wp2_with fail
  rw[am.out,Oper.upon_value]
  go_wp2_with fail
  go_ret2;exact⟨j,true,_,rfl,HD.out,y.out.row,y.out.size,y.out.all,HX.out.trans y.out.bt⟩
 have X:=hi.out.resolve_left (by omega);have Y:=hj.out.resolve_left v;obtain⟨ao,V⟩:=f.out.swap (by omega) X Y;obtain⟨W3,ab,E⟩:=hS.out.swap z i j (by omega) (by omega) h2;have am:=Hd ab;have y:=Hd E;have ad:=Hd V;obtain⟨d2,ar⟩:=nm (swp A i j);rw[ar]at y ad;clear ab E hi hj X Y V ar hS f
 go_wp2_with fail
 rw[am.out,Oper.upon_value];clear c0 c1 cz
 go_upto_block 4 with (fail)
 go_cut [10,11] (λM N wx=>∃(i j:Nat) (dk:Array Int),M = .int .i64 (i:Int)/\N = .int .i64 (j:Int)/\j<i/\Hid (Prt lt a b d i j dk)/\Hid (StR r g n c p D dk wx))
 case first =>
  go_wp2_with fail
  go_loopw [10,11] (λM N wr=>∃(i j:Nat) (dk:Array Int),M = .int .i64 (i:Int)/\N = .int .i64 (j:Int)/\Hid (Prt lt a b d i j dk)/\Hid (StR r g n c p D dk wr)) (λF vj _=>(intOf vj).toNat+1-(intOf F).toNat)
  case atStart=>exact⟨i+1,j-1,d2,by go_num,by go_num,ad.out,y.out⟩
  clear y ad k1 k2 k3 v ao;obtain⟨i0,C,dk,rfl,rfl,f,hS⟩:=hrel;have q1:=f.out.ai;have q2:=f.out.jb;have q3:=f.out.ij
  go_upto_block 6 with (fail)
  go_cut [10] (λM wx=>∃i:Nat,M = .int .i64 (i:Int)/\i0<=i/\Hid (Prt lt a b d i C dk)/\Hid (C<i\/lt dk[i]! dk[a]! = false)/\Hid (StR r g n c p D dk wx))
  case first =>
   go_wp2_with fail
   go_loopw [10] (λF wr=>∃i:Nat,F = .int .i64 (i:Int)/\i0<=i/\Hid (Prt lt a b d i C dk)/\Hid (StR r g n c p D dk wr)) (λF _=>b-(intOf F).toNat)
   case atStart=>exact⟨i0,rfl,Nat.le_refl _,f,hS⟩
   obtain⟨i,rfl,J,f,hS⟩:=hrel;have u:=HB.out.bt hS.out.bt G;obtain⟨c0,c1,cz⟩:=c2 u;clear u;have k1:=f.out.ai;have k2:=f.out.jb;have k3:=f.out.ij
   by_cases v:i<=C
   .have B:=hS.out.less af i a (by omega) (by omega)
    cases o:lt dk[i]! dk[a]! with
    | true =>
     rw[o]at B;have HN:=Hd (f.out.up v o);clear o f
     go_wp2_with (go_at_fn T;refine B.mono ?_;rintro e w' ⟨rfl,L⟩)
     go_roundw
     case rel=>exact⟨i+1,by go_num,by omega,HN.out,hS.out.ext L⟩
     simp[intOf];omega
    | false =>
     rw[o]at B;have HV:=Hd o;clear o
     go_wp2_with (go_at_fn T;refine B.mono ?_;rintro e w' ⟨rfl,L⟩)
     go_meet
     exact⟨i,rfl,J,f,.inr HV.out,hS.out.ext L⟩
   go_wp2_with fail
   go_meet
   exact⟨i,rfl,J,f,.inl (by omega),hS⟩
  clear f hS;obtain⟨i,rfl,J,f,hi,hS⟩:=hcut
  go_upto_block 8 with (fail)
  go_cut [11] (λN wx=>∃j:Nat,N = .int .i64 (j:Int)/\j<=C/\Hid (Prt lt a b d i j dk)/\Hid (j<i\/lt dk[j]! dk[a]! = true)/\Hid (StR r g n c p D dk wx))
  case first =>
   go_wp2_with fail
   go_loopw [11] (λF wr=>∃j:Nat,F = .int .i64 (j:Int)/\j<=C/\Hid (Prt lt a b d i j dk)/\Hid (StR r g n c p D dk wr)) (λF _=>(intOf F).toNat)
   case atStart=>exact⟨C,rfl,Nat.le_refl _,f,hS⟩
   obtain⟨j,rfl,I,f,hS⟩:=hrel;have u:=HB.out.bt hS.out.bt G;obtain⟨c0,c1,cz⟩:=c2 u;clear u;have k1:=f.out.ai;have k2:=f.out.jb;have k3:=f.out.ij
   by_cases v:i<=j
   .have B:=hS.out.less af j a (by omega) (by omega)
    cases o:lt dk[j]! dk[a]! with
    | false =>
     rw[o]at B;have HN:=Hd (f.out.down v o);clear o f
     go_wp2_with (go_at_fn T;refine B.mono ?_;rintro e w' ⟨rfl,L⟩)
     go_roundw
     case rel=>exact⟨j-1,by go_num,by omega,HN.out,hS.out.ext L⟩
     simp[intOf];omega
    | true =>
     rw[o]at B;have HV:=Hd o;clear o
     go_wp2_with (go_at_fn T;refine B.mono ?_;rintro e w' ⟨rfl,L⟩)
     go_meet
     exact⟨j,rfl,I,f,.inr HV.out,hS.out.ext L⟩
   go_wp2_with fail
   go_meet
   exact⟨j,rfl,I,f,.inl (by omega),hS⟩
  clear f hS;obtain⟨j,rfl,I,f,hj,hS⟩:=hcut;have k1:=f.out.ai;have k2:=f.out.jb;have k3:=f.out.ij;have u:=HB.out.bt hS.out.bt G;obtain⟨c0,c1,cz⟩:=c2 u;clear u
  by_cases v:j<i
  .go_wp2_with fail
   go_meet
   exact⟨i,j,dk,rfl,rfl,v,f,hS⟩
  have X:=hi.out.resolve_left (by omega);have Y:=hj.out.resolve_left v;obtain⟨ao,V⟩:=f.out.swap (by omega) X Y;obtain⟨W4,aw,ak⟩:=hS.out.swap z i j (by omega) (by omega) h2;have aC:=Hd aw;have ap:=Hd ak;have az:=Hd V;clear aw ak hi hj X Y V hS f
  go_wp2_with fail
  rw[aC.out,Oper.upon_value]
  go_wp2_with fail
  go_roundw
  case rel=>exact⟨i+1,j-1,_,by go_num,by go_num,az.out,ap.out⟩
  simp[intOf];omega
 clear y ad k1 k2 k3 v ao;obtain⟨i,j,dk,rfl,rfl,v,f,hS⟩:=hcut;have k1:=f.out.ai;have k2:=f.out.jb;have k3:=f.out.ij;have u:=HB.out.bt hS.out.bt G;obtain⟨c0,c1,cz⟩:=c2 u;obtain⟨W5,ax,al⟩:=hS.out.swap z j a (by omega) (by omega) h2;have aD:=Hd ax;have O:=Hd al;have HD:=Hd (f.out.done v);clear ax al u hS f
 go_wp2_with fail
 rw[aD.out,Oper.upon_value]
 go_wp2_with fail
 go_ret2;exact⟨j,false,_,rfl,HD.out,O.out.row,O.out.size,O.out.all,HX.out.trans O.out.bt⟩
end
section
open Go.Sort
theorem qma {n:Nat} {d dk:Array Int} (h:PermIn 0 n d dk) (hn:d.size=n):dk.toList.Perm d.toList:=by
 obtain⟨hs,_,g⟩:=h;have c:dk.extract 0 n=dk:=by rw[<- hn,<- hs];exact Array.extract_size
 have f:d.extract 0 n=d:=by rw[<- hn];exact Array.extract_size
 rwa [c,f]at g
theorem mem_get {d:Array Int} {k:Nat} (h:k<d.size):d[k]! ∈ d.toList:=by
 rw[getElem!_pos d k h];exact Array.mem_toList_iff.2 (Array.getElem_mem h)
theorem nodup_get {d:Array Int} (g:d.toList.Nodup) {i j:Nat} (c:i<j) (f:j<d.size):d[i]! ≠ d[j]! := by
 have h:=List.pairwise_iff_getElem.1 g i j (by simp;omega) (by simpa using f) c;rw[getElem!_pos d i (by omega),getElem!_pos d j f];simpa using h
def Tot (lt:Int->Int->Bool) (d:Array Int):Prop:=d.toList.Nodup/\∀x∈d.toList,∀y∈d.toList,x≠y->lt x y=false->lt y x=true
section
variable {lt:Int->Int->Bool} {n:Nat} {d:Array Int}
theorem qsi (hS:SWO lt) {A m B:Nat} {e:Array Int} (v:∀k,A<=k->k<m->lt e[k]! e[m]! = true) (w:∀k,m<k->k<B->lt e[k]! e[m]! = false) (C:SortedIn lt A m e) (D:SortedIn lt (m+1) B e):SortedIn lt A B e:=by
 intro i j hi c q
 by_cases r:j<m
 .exact C i j hi c r
 by_cases g:j=m
 .subst g;exact hS.asymmA (v i hi c)
 by_cases o:m+1<=i
 .exact D i j o c q
 by_cases f:i=m
 .subst f;exact w j c q
 have y:=v i hi (by omega);have u:=w j (by omega) q
 cases z:lt e[j]! e[i]! with
 | false=>rfl
 | true=>rw[hS.trans _ _ _ z y]at u;cases u
structure Pq (lt:Int->Int->Bool) (n:Nat) (d:Array Int) (A B:Nat) (dk:Array Int):Prop where
 ab:A<=B
 bn:B<=n
 sz:d.size=n
 perm:PermIn 0 n d dk
 bel:A=0\/∀k,A<=k->k<B->lt dk[A-1]! dk[k]! = true
 fin:∀e,PermIn A B dk e->SortedIn lt A B e->PermIn 0 n d e/\SortedIn lt 0 n e
theorem Pq.start (hn:d.size=n):Pq lt n d 0 n d:=⟨Nat.zero_le _,Nat.le_refl _,hn,permIn_refl d 0 n,.inl rfl,λe c f=>⟨c,f⟩⟩
theorem Pq.size {A B:Nat} {dk:Array Int} (h:Pq lt n d A B dk):dk.size=n:=h.perm.1.trans h.sz
theorem Pq.turn {A B:Nat} {dk c:Array Int} (h:Pq lt n d A B dk) (f:PermIn A B dk c):Pq lt n d A B c:=by
 have hs:=h.size;have o:=h.bn;refine⟨h.ab,o,h.sz,permIn_trans _ _ _ 0 n h.perm (permIn_mono dk c A B 0 n (Nat.zero_le _) o (by omega) f),?_,λe q r=>h.fin e (permIn_trans _ _ _ A B f q) r⟩
 rcases h.bel with g | g
 .exact .inl g
 by_cases u:A=0
 .exact .inl u
 refine .inr λk v w=>?_
 rw[f.2.1 (A-1) (.inl (by omega))];exact permIn_all dk c A B (λx=>lt dk[A-1]! x=true) (by omega) f g k v w
theorem Pq.tot {A B:Nat} {dk:Array Int} (h:Pq lt n d A B dk) (f:Tot lt d):Tot lt dk:=by
 have c:=qma h.perm h.sz;exact⟨c.nodup_iff.2 f.1,λx g y hy=>f.2 x (c.mem_iff.1 g) y (c.mem_iff.1 hy)⟩
theorem Pq.left (hS:SWO lt) (I:Tot lt d) {A B m:Nat} {dk q c:Array Int} (h:Pq lt n d A B dk) (u:Prtd lt A B dk m q) (w:PermIn A m q c) (hs:SortedIn lt A m c):Pq lt n d (m+1) B c:=by
 have C:=h.turn u.perm;have T:=C.size;have N:=u.am;have O:=u.mb;have E:=h.bn;have v:=C.turn (permIn_mono q c A m A B (Nat.le_refl _) (by omega) (by omega) w);have U:=v.size;have D:=v.tot I;have z:c[m]! = q[m]! := w.2.1 m (.inr (Nat.le_refl _));have r:∀k,m<k->k<B->lt c[k]! c[m]! = false:=λk g f=>by rw[z,w.2.1 k (.inr (by omega))];exact u.hi k g f
 have y:∀k,A<=k->k<m->lt c[k]! c[m]! = true:=λk g f=>by
  rw[z];exact permIn_all q c A m (λx=>lt x q[m]! = true) (by omega) w u.lo k g f
 refine⟨by omega,E,h.sz,v.perm,.inr λk g f=>?_,λe o F=>?_⟩
 .rw [Nat.add_sub_cancel];exact D.2 _ (mem_get (by omega)) _ (mem_get (by omega)) (λG=>nodup_get D.1 (show m<k by omega) (by omega) G.symm) (r k (by omega) f)
 refine v.fin e (permIn_mono c e (m+1) B A B (by omega) (Nat.le_refl _) (by omega) o) (qsi (m:=m) hS (λk g f=>?_) (λk g f=>?_) (λi j J L M=>?_) F)
 .rw [o.2.1 k (.inl (by omega)),o.2.1 m (.inl (by omega))];exact y k g f
 .rw [o.2.1 m (.inl (by omega))];exact permIn_all c e (m+1) B (λx=>lt x c[m]! = false) (by omega) o (λk g f=>r k (by omega) f) k (by omega) f
 rw[o.2.1 i (.inl (by omega)),o.2.1 j (.inl (by omega))];exact hs i j J L M
theorem Pq.right (hS:SWO lt) {A B m:Nat} {dk q c:Array Int} (h:Pq lt n d A B dk) (r:Prtd lt A B dk m q) (v:PermIn (m+1) B q c) (hs:SortedIn lt (m+1) B c):Pq lt n d A m c:=by
 have D:=h.turn r.perm;have N:=D.size;have E:=r.am;have M:=r.mb;have L:=h.bn;have u:=D.turn (permIn_mono q c (m+1) B A B (by omega) (Nat.le_refl _) (by omega) v);have O:=u.size;have C:c[m]! = q[m]! := v.2.1 m (.inl (by omega))
 have y:∀k,m<k->k<B->lt c[k]! c[m]! = false:=λk g f=>by
  rw[C];exact permIn_all q c (m+1) B (λx=>lt x q[m]! = false) (by omega) v (λk g f=>r.hi k (by omega) f) k (by omega) f
 have z:∀k,A<=k->k<m->lt c[k]! c[m]! = true:=λk g f=>by
  rw[C,v.2.1 k (.inl (by omega))];exact r.lo k g f
 refine⟨E,by omega,h.sz,u.perm,?_,λe o F=>?_⟩
 .rcases u.bel with w | w
  .exact .inl w
  exact .inr λk g f=>w k g (by omega)
 refine u.fin e (permIn_mono c e A m A B (Nat.le_refl _) (by omega) (by omega) o) (qsi (m:=m) hS (λk g f=>?_) (λk g f=>?_) F (λi j G I J=>?_))
 .rw [o.2.1 m (.inr (Nat.le_refl _))];exact permIn_all c e A m (λx=>lt x c[m]! = true) (by omega) o z k g f
 .rw [o.2.1 k (.inr (by omega)),o.2.1 m (.inr (Nat.le_refl _))];exact y k g f
 rw[o.2.1 i (.inr (by omega)),o.2.1 j (.inr (by omega))];exact hs i j G I J
theorem one_order (hS:SWO lt) (C:Tot lt d) (hn:d.size=n) {e:Array Int} (u:PermIn 0 n d e) (hs:SortedIn lt 0 n e):e=insertionSort lt d 0 n:=by
 have hi:=insertionSort_holds hS d 0 n (Nat.zero_le _) (by omega)
 have c:∀{a:Array Int},a.size=n->SortedIn lt 0 n a->a.toList.Pairwise λx y=>lt y x=false:=λ{a} D h=>by
  rw[List.pairwise_iff_getElem];intro i j f o z;have g:i<a.size:=by simpa using f
  have q:j<a.size:=by simpa using o
  have:=h i j (Nat.zero_le _) z (by omega);rw[getElem!_pos a j q,getElem!_pos a i g]at this;simpa using this
 have v:=qma u hn;have w:=qma hi.1 hn
 apply Array.toList_inj.1
 refine List.Perm.eq_of_pairwise (le:=λx y=>lt y x=false) (λa b A B f o=>?_) (c (u.1.trans hn) hs) (c (hi.1.1.trans hn) hi.2) (v.trans w.symm)
 apply Classical.byContradiction
 intro r;have:=C.2 b (w.mem_iff.1 B) a (v.mem_iff.1 A) (λh=>r h.symm) f;rw[o]at this
 cases this
end
end
section
/- sort.Slice at whole numbers: the choice of a pivot,and the look at whether all is in order: walked. -/
open Go.Shelf Go.Sort Go.Lib
def ChoP (a b:Nat) (w:World) (e:Ending) (w':World):Prop:=∃(m:Nat) (h:Int),e = .returned (.tuple #[.int .i64 (m:Int),.int .i64 h])/\a<=m/\m<b/\(h=0\/h=1)/\Ext w w'
theorem choose_c (A:Nat) (D:Array Value) (I:Nat) (G:Array Value) (lt:Int->Int->Bool) (p:Int->Prop) (o g n c a b l:Nat) (L:b=a+l) (d:Array Int) (w:World) (el:∀y w,(callFunc A y).run Tryz.prog w = .ok (.enter A y) w)
  (u:qey A D lt p o g n c w) (z:qbv o w d g n c) (hd:d.size=n) (U:∀x∈d.toList,p x) (hn:n<=1000) (ae:8<=l) (T:l<50) (ab:b<=n) (hg:g<w.heap.size) :
  Calls Tryz.prog 301 #[qjl A D I G,.int .i64 a,.int .i64 b] w (ChoP a b w):=by
 obtain⟨q,hq⟩:=nm (l / 4);have y1:(b:Int)-(a:Int)=(l:Int):=by omega
 have y2:(l:Int) / 4=(q:Int):=by omega
 have y3:(l:Int).tdiv 4=(q:Int):=by rw[Int.tdiv_eq_ediv_of_nonneg (by omega)];exact y2
 obtain⟨C,r⟩:=nm ((w.alloc (.cells #[.func (.func A) #[] D,.func (.func I) #[] G] 299)).alloc (.cells #[.int .i64 0] 3));have J:Ext w C:=by rw[<- r];exact((Ext.refl w).alloc _).alloc _
 have N:qaf C w.heap.size 299 [.func (.func A) #[] D,.func (.func I) #[] G]:=by rw[<- r];exact(qaf.new w _ _).ext ((Ext.refl _).alloc _)
 have hS:qaf C (w.heap.size+1) 3 [.int .i64 0]:=by rw[<- r];have:=qaf.new (w.alloc (.cells #[.func (.func A) #[] D,.func (.func I) #[] G] 299)) 3 [.int .i64 0];rwa [World.size_alloc]at this
 have f:=median_c A D I G lt p o g n c (a+q) (a+q*2) (a+q*3) (w.heap.size+1) 0 d w C el u J.bt (z.ext qad.good J) hd U hn (by omega) (by omega) (by omega) hS (by omega) (by omega) (by omega);have E:=Hd f;have M:=Hd r;obtain⟨Y,b1,bz⟩:=c2 N;have X:=Hd J;have af:q<=12:=by omega
 have ag:a+q*3<b:=by omega
 clear u z U J f r N hS hq L
 go_enter Tryz.func301,Tryz.ntmps301
 go_wp2_with fail
 rw[M.out];have f:=E.out;rw[show((a+q:Nat):Int)=(a:Int)+q by omega,show((a+q*2:Nat):Int)=(a:Int)+q*2 by omega,show((a+q*3:Nat):Int)=(a:Int)+q*3 by omega]at f;refine f.mono ?_;rintro e w' ⟨x,V,rfl,hx,ac,ad,B,F⟩;have x0:=B.cell 0 _;have xz:=B.lt;have O:Ext w w':=Bt.new X.out F λq _ h=>by omega
 have v:a<=x/\x<b:=by omega
 clear B F hx Y b1 bz f E M
 by_cases h0:V=0
 .subst h0
  go_wp2_with fail
  go_ret2;exact⟨x,1,rfl,v.1,v.2,.inr rfl,O⟩
 have aa:¬ V=12:=by omega
 go_wp2_with fail
 go_ret2;exact⟨x,0,rfl,v.1,v.2,.inl rfl,O⟩
def PartialP (lt:Int->Int->Bool) (a b:Nat) (d:Array Int) (w:World) (e:Ending) (w':World):Prop:=∃r:Bool,e = .returned (.bool r)/\(r=true->SortedIn lt a b d)/\Ext w w'
theorem partial_c (v:Nat) (I:Array Value) (U:Nat) (T:Array Value) (lt:Int->Int->Bool) (hS:SWO lt) (p:Int->Prop) (z g n c a b:Nat) (d:Array Int) (w:World) (el:∀y w,(callFunc v y).run Tryz.prog w = .ok (.enter v y) w)
  (f:qey v I lt p z g n c w) (B:qbv z w d g n c) (hd:d.size=n) (hp:∀x∈d.toList,p x) (hn:n<=1000) (aa:a<b) (L:b<a+50) (ac:b<=n) :
  Calls Tryz.prog 303 #[qjl v I U T,.int .i64 a,.int .i64 b] w (PartialP lt a b d w):=by
 obtain⟨C,r⟩:=nm (w.alloc (.cells #[.func (.func v) #[] I,.func (.func U) #[] T] 299));have u:Ext w C:=by rw[<- r];exact(Ext.refl w).alloc _
 have hB:qaf C w.heap.size 299 [.func (.func v) #[] I,.func (.func U) #[] T]:=by rw[<- r];exact qaf.new w _ _
 have G:∀W,Ext C W->∀i j:Nat,i<n->j<n->Calls Tryz.prog v (#[.int .i64 i,.int .i64 j]++I) W λe X=>e = .returned (.bool (lt d[i]! d[j]!))/\Ext W X:=λW hW=>f W d (u.trans' hW).bt (B.ext qad.good (u.trans' hW)) hd hp
 have HB:=Hd hB;have HX:=Hd u;have HL:=Hd G;have N:Hid (SortedIn lt a (a+1) d):=λi j h1 h2 h3=>by omega
 have ab:((b:Int)-(a:Int)<50):=by omega
 have Y:=Hd r;clear f B hp u r hB G
 go_enter Tryz.func303,Tryz.ntmps303
 go_wp2_with fail
 rw[Y.out];clear Y;refine wp_loop_rounds 1 ?_;rw[rounds_succ]
 go_upto_block 2 with (fail)
 go_cut [7] (λV wx=>∃i:Nat,V = .int .i64 (i:Int)/\i<=b/\Hid (i=b->SortedIn lt a b d)/\Ext C wx)
 case first =>
  go_wp2_with fail
  go_loopw [7] (λV wr=>∃i:Nat,V = .int .i64 (i:Int)/\a+1<=i/\i<=b/\Hid (SortedIn lt a i d)/\Ext C wr) (λvi _=>b-(intOf vi).toNat)
  case atStart=>exact⟨a+1,by go_num,Nat.le_refl _,by omega,N,Ext.refl _⟩
  obtain⟨i,rfl,ad,E,q,A⟩:=hrel;have D:=HB.out.ext A;have c0:=D.cell 0 _;have cz:=D.lt;clear D
  by_cases ae:i<b
  .have F:=HL.out wr A i (i-1) (by omega) (by omega);rw[show(((i-1:Nat):Int))=(i:Int)-1 by omega]at F
   cases o:lt d[i]! d[i-1]! with
   | true =>
    rw[o]at F;clear o
    go_wp2_with (go_at_fn v;refine F.mono ?_;rintro e X ⟨rfl,O⟩)
    go_meet
    exact⟨i,rfl,E,λe=>absurd e (by omega),A.trans' O⟩
   | false =>
    rw[o]at F;have HN:Hid (SortedIn lt a (i+1) d):=SortedIn.snoc hS q.out o;clear o
    go_wp2_with (go_at_fn v;refine F.mono ?_;rintro e X ⟨rfl,O⟩)
    go_roundw
    case rel=>exact⟨i+1,by go_num,by omega,by omega,HN.out,A.trans' O⟩
    simp[intOf];omega
  go_wp2_with fail
  go_meet
  exact⟨i,rfl,E,λe=>e ▸ q.out,A⟩
 obtain⟨i,rfl,E,q,A⟩:=hcut
 by_cases M:i=b
 .subst M;have J:=Hd (q.out rfl);clear q
  go_wp2_with fail
  go_ret;exact⟨true,rfl,λ_=>J.out,HX.out.trans' A⟩
 go_wp2_with fail
 go_ret;exact⟨false,rfl,λh=>(by cases h),HX.out.trans' A⟩
end
section
/- sort.Slice at whole numbers: the breaking of patterns: walked. -/
open Go.Shelf Go.Sort Go.Lib
def xorRen:Go.Shelf.Ren:=⟨fun | 36=>319 | n=>n,fun | 0=>0 | 41=>154 | 51=>223 | 60=>326 | 66=>332 | n=>n,fun | n=>n⟩
theorem laysXor:LaysGg.n36 Tryz.prog xorRen:={
 mixed:=by kernel_rfl
 f36:=Tryz.func319.trans (congrArg some (by kernel_rfl))
 t0:=Tryz.underlying0
 a0:=Tryz.isAgg0
 z0:=Tryz.sizeOf0
 v0:=Tryz.zeroValue0
 i0:=by kernel_rfl
 t41:=Tryz.underlying154
 a41:=Tryz.isAgg154
 z41:=Tryz.sizeOf154
 v41:=Tryz.zeroValue154
 i41:=by kernel_rfl
 t51:=Tryz.underlying223
 a51:=Tryz.isAgg223
 z51:=Tryz.sizeOf223
 v51:=Tryz.zeroValue223
 i51:=by kernel_rfl
 t60:=Tryz.underlying326
 a60:=Tryz.isAgg326
 z60:=Tryz.sizeOf326
 v60:=Tryz.zeroValue326
 i60:=by kernel_rfl
 t66:=Tryz.underlying332
 a66:=Tryz.isAgg332
 z66:=Tryz.sizeOf332
 v66:=Tryz.zeroValue332
 i66:=by kernel_rfl
}
def NextP (gx:Nat) (w:World) (e:Ending) (w':World):Prop:=∃C:Nat,C<18446744073709551616/\e = .returned (.int .u64 (C:Int))/\qaf w' gx 326 [.int .u64 (C:Int)]/\Bt (λq=>q=gx) w w'
theorem next_c (c X:Nat) (g:X<18446744073709551616) (w:World) (f:qaf w c 326 [.int .u64 (X:Int)]):Calls Tryz.prog 319 #[.pointer (some ⟨c,0,none⟩)] w (NextP c w):=by
 have h:=Any.xorshift_Next laysXor c 0 X g w (f.cell 0 _) (f.frozen 0);change Calls Tryz.prog 319 _ w _ at h;refine h.mono ?_;rintro e o ⟨rfl,rfl⟩;refine⟨_,xorNextN_lt X g,rfl,?_,Bt.drewN (Bt.set (Z:=λq=>q=c) (p:=⟨c,0,none⟩) (Bt.refl _ _) (.inr rfl) _) 3⟩;exact(f.set 0 _).ext ((Ext.refl _).drewN 3)
theorem pow_len:∀l:Fin 17,8<=l.1->l.1<=2 ^ Lib.bitLen l.1/\2 ^ Lib.bitLen l.1<=2*l.1:=by decide
def PowP (l:Nat) (w:World) (e:Ending) (w':World):Prop:=∃m:Nat,l<=m/\m<=2*l/\e = .returned (.int .u64 (m:Int))/\w'=w
theorem nextPow_c (l:Nat) (u:8<=l) (r:l<=16) (w:World):Calls Tryz.prog 318 #[.int .i64 (l:Int)] w (PowP l w):=by
 have c:=λw=>Any.bits_Len Tryz.laysBits (l:Int) w (by omega) (by omega)
 change ∀w,Calls Tryz.prog 118 _ w _ at c;have f:=pow_len ⟨l,by omega⟩ u;simp only at f;rw[Int.toNat_natCast]at c;obtain⟨k,q⟩:=nm (Lib.bitLen l);rw[q]at c f
 have g:k<=5:=by
  apply Classical.byContradiction
  intro v;have:2 ^ 6<=2 ^ k:=Nat.pow_le_pow_right (by decide) (by omega);omega
 have wr:IntKind.u64.wrap (l:Int)=l:=by simp[IntKind.wrap,IntKind.bits,IntKind.signed];omega
 have B:IntKind.u64.wrap (k:Int)=k:=by simp[IntKind.wrap,IntKind.bits,IntKind.signed];omega
 have y:IntKind.u64.wrap ((2:Int) ^ k)=((2 ^ k:Nat):Int):=by
  rw[show(2:Int) ^ k=((2 ^ k:Nat):Int) by push_cast;rfl];have:2 ^ k<=2 ^ 5:=Nat.pow_le_pow_right (by decide) g
  generalize 2 ^ k=z at this
  simp[IntKind.wrap,IntKind.bits,IntKind.signed];omega
 have o:=Hd f;clear f q
 go_enter Tryz.func318,Tryz.ntmps318
 go_wp2_with fail
 refine(c _).mono ?_;rintro e A ⟨rfl,rfl⟩
 go_wp2_with fail
 go_ret;exact⟨2 ^ k,o.out.1,o.out.2,rfl,rfl⟩
theorem StR.swapb {y:Nat} {w:Array Value} {f g n c:Nat} {p:Int->Prop} {u W:World} {dk:Array Int} (h:StR f g n c p u dk W) (hs:qhv y w f g n c) (i j:Nat) (hi:i<n) (v:j<n) (z:2<=n) :
  ∃o,(callFunc y (#[.int .i64 i,.int .i64 j]++w)).run Tryz.prog W = .ok (.value (.tuple #[])) o/\StR f g n c p u (swp dk i j) o/\Bt (λq=>q=g) W o:=by
 have r:=qbv.swap h.row h.size hi v;exact⟨_,hs W dk h.row h.size i j hi v z,⟨r.1,by rw[<- h.size];simp[swp],qpm h.all (by have:=h.size;omega) (by have:=h.size;omega),h.bt.trans r.2⟩,r.2⟩
theorem StR.side {f g n c r:Nat} {p:Int->Prop} {o W u:World} {dk:Array Int} (h:StR f g n c p o dk W) (k:Bt (λq=>q=r) W u) (v:g≠r) (w:o.heap.size<=r):StR f g n c p o dk u :=
 ⟨qbv.side h.row k v,h.size,h.all,h.bt.side k w⟩
def BreakP (base g n c:Nat) (p:Int->Prop) (a b:Nat) (d:Array Int) (w:World) (e:Ending) (w':World):Prop:=∃d',e = .returned (.tuple #[])/\PermIn a b d d'/\StR base g n c p w d' w'
theorem break_c (V:Nat) (U:Array Value) (E:Nat) (D:Array Value) (p:Int->Prop) (f g n c a b l:Nat) (am:b=a+l) (d:Array Int) (w:World)
  (J:qhv E D f g n c) (B:qbv f w d g n c) (hd:d.size=n) (hp:∀x∈d.toList,p x) (hn:n<=1000) (h8:8<=l) (al:l<=16) (au:b<=n) (hg:g<w.heap.size) :
  Calls Tryz.prog 300 #[qjl V U E D,.int .i64 a,.int .i64 b] w (BreakP f g n c p a b d w):=by
 obtain⟨q,hq⟩:=nm (l / 4);have y1:(b:Int)-(a:Int)=(l:Int):=by omega
 have aq:a+l<=b:=by omega
 have y2:(l:Int) / 4=(q:Int):=by omega
 have y3:(l:Int).tdiv 4=(q:Int):=by rw[Int.tdiv_eq_ediv_of_nonneg (by omega)];exact y2
 obtain⟨M,v⟩:=nm ((w.alloc (.cells #[.func (.func V) #[] U,.func (.func E) #[] D] 299)).alloc (.cells #[.int .u64 (l:Int)] 326));have T:Ext w M:=by rw[<- v];exact((Ext.refl w).alloc _).alloc _
 have N:qaf M w.heap.size 299 [.func (.func V) #[] U,.func (.func E) #[] D]:=by rw[<- v];exact(qaf.new w _ _).ext ((Ext.refl _).alloc _)
 have hS:qaf M (w.heap.size+1) 326 [.int .u64 (l:Int)]:=by rw[<- v];have:=qaf.new (w.alloc (.cells #[.func (.func V) #[] U,.func (.func E) #[] D] 299)) 326 [.int .u64 (l:Int)];rwa [World.size_alloc]at this
 have ah:=λw=>nextPow_c l h8 al w
 have wr:IntKind.u64.wrap (l:Int)=l:=by simp[IntKind.wrap,IntKind.bits,IntKind.signed];omega
 have HB:=Hd N;have HS:=Hd hS;have ai:StR f g n c p w d M:=⟨B.ext qad.good T,hd,hp,T.bt⟩
 have aa:=Hd ai;have HX:=Hd T;have HW:=Hd v;have ay:2<=q/\q<=4:=by omega
 have az:4*q<=l/\l<4*q+4:=by omega
 clear B hp T v N hS hq ai am
 go_enter Tryz.func300,Tryz.ntmps300
 go_wp2_with fail
 refine(ah _).mono ?_;rintro e w' ⟨m,aw,ax,rfl,rfl⟩;clear ah
 go_wp2_with fail
 rw[HW.out];obtain⟨y,ac⟩:=nm (w.heap.size+1);rw[ac]at HS ⊢;have ad:¬ w.heap.size=y:=by omega
 have ae:¬ g=y:=by omega
 have af:w.heap.size<=y:=by omega
 have ao:¬ w.heap.size=g:=by omega
 have an:¬ y=g:=by omega
 clear ac HW
 go_loopw [9] (λv9 wr=>∃(u X:Nat) (dk:Array Int),v9 = .int .i64 (u:Int)/\a<=u/\u<=a+q*2+2/\X<18446744073709551616/\Hid (PermIn a b d dk)/\Hid (StR f g n c p w dk wr)/\Hid (qaf wr w.heap.size 299 [.func (.func V) #[] U,.func (.func E) #[] D])/\Hid (qaf wr y 326 [.int .u64 (X:Int)])) (λvi _=>a+q*2+3-(intOf vi).toNat)
 case atStart=>exact⟨a+q*2-1,l,d,by go_num,by omega,by omega,by omega,permIn_refl d a b,aa.out,HB.out,HS.out⟩
 clear aa HB HS;obtain⟨u,X,dk,rfl,aA,aB,T,hP,hS,N,hG⟩:=hrel
 by_cases av:u<=a+q*2+1
 .have ag:=next_c y X T wr hG.out;obtain⟨b0,b1,bz⟩:=c2 N.out
  go_wp2_with fail
  refine ag.mono ?_;rintro e w' ⟨C,hC,rfl,ab,L⟩;obtain⟨O,hO⟩:=nm (C &&& (m-1));have ar:O<=m-1:=by rw[<- hO];exact Nat.and_le_right
  have ye:bits .and .u64 (C:Int) ((m:Int)-1)=(O:Int):=by rw[show((m:Int)-1)=((m-1:Nat):Int) by omega,bits_and_u64_nat _ _ hC (by omega),hO]
  have Y:=Hd (hS.out.side L ae af);have I:=N.out.bt L ad;clear b0 b1 bz ag;obtain⟨b0,b1,bz⟩:=c2 I;have aj:=Hd I;have ak:=Hd ab;clear I ab L hS N hG hO
  have r:∀o:Nat,o<l->∃z,(callFunc E (#[.int .i64 (u:Int),.int .i64 ((a:Int)+(o:Int))]++D)).run Tryz.prog w' = .ok (.value (.tuple #[])) z/\PermIn a b d (swp dk u (a+o))/\StR f g n c p w (swp dk u (a+o)) z/\qaf z w.heap.size 299 [.func (.func V) #[] U,.func (.func E) #[] D]/\qaf z y 326 [.int .u64 (C:Int)]:=λo ho=>by
   obtain⟨z,F,G,A⟩:=Y.out.swapb J u (a+o) (by omega) (by omega) (by omega);exact⟨z,F,permIn_trans _ _ _ a b hP.out (swp_permIn dk a b u (a+o) (by omega) (by omega) (by omega) (by omega) (by have:=Y.out.size;omega)),G,aj.out.bt A ao,ak.out.bt A an⟩
  by_cases ap:O<l
  .obtain ⟨z,F,G,A,h4,h5⟩:=r O ap;have H1:=Hd F;have H2:=Hd G;have H3:=Hd A;have H4:=Hd h4;have H5:=Hd h5;clear F G A h4 h5 r
   go_wp2_with fail
   rw[H1.out,Oper.upon_value]
   go_wp2_with fail
   go_roundw
   case rel=>exact⟨u+1,C,_,by go_num,by omega,by omega,hC,H2.out,H3.out,H4.out,H5.out⟩
   simp[intOf];omega
  obtain⟨o,ho⟩:∃o,O=l+o:=⟨O-l,by omega⟩
  subst ho;obtain⟨z,F,G,A,h4,h5⟩:=r o (by omega);have H1:=Hd F;have H2:=Hd G;have H3:=Hd A;have H4:=Hd h4;have H5:=Hd h5;have yo:((l+o:Nat):Int)-(l:Int)=(o:Int):=by omega
  have aC:(l:Int)+(o:Int)-(l:Int)=(o:Int):=by omega
  clear F G A h4 h5 r
  go_wp2_with fail
  rw[H1.out,Oper.upon_value]
  go_wp2_with fail
  go_roundw
  case rel=>exact⟨u+1,C,_,by go_num,by omega,by omega,hC,H2.out,H3.out,H4.out,H5.out⟩
  simp[intOf];omega
 go_wp2_with fail
 go_end0
 exact⟨dk,rfl,hP.out,hS.out⟩
end
section
open Go.Shelf Go.Sort Go.Lib
def QuickP (lt:Int->Int->Bool) (base g n c:Nat) (p:Int->Prop) (d:Array Int) (w:World) (e:Ending) (w':World):Prop:=∃d',e = .returned (.tuple #[])/\PermIn 0 n d d'/\SortedIn lt 0 n d'/\StR base g n c p w d' w'
theorem quick_c (J:Nat) (lb:Array Value) (sf:Nat) (sb:Array Value) (lt:Int->Int->Bool) (hS:SWO lt) (p:Int->Prop) (f g n c:Nat) (ag:Nat) (d:Array Int) (w:World) (el:∀ah w,(callFunc J ah).run Tryz.prog w = .ok (.enter J ah) w)
  (Y:qey J lb lt p f g n c w) (D:qhv sf sb f g n c) (ak:qbv f w d g n c) (hd:d.size=n) (hp:∀x∈d.toList,p x) (hn:2<=n/\n<=16) (hT:Tot lt d) (aA:n<=12+ag) (ao:ag<=100) (hg:g<w.heap.size) :
  Calls Tryz.prog 277 #[.agg #[.func (.func J) #[] lb,.func (.func sf) #[] sb],.int .i64 0,.int .i64 n,.int .i64 ag] w (QuickP lt f g n c p d w):=by
 obtain⟨I,ae⟩:=nm (w.alloc (.cells #[.func (.func J) #[] lb,.func (.func sf) #[] sb] 299));have V:Ext w I:=by rw[<- ae];exact(Ext.refl w).alloc _
 have hB:qaf I w.heap.size 299 [.func (.func J) #[] lb,.func (.func sf) #[] sb]:=by rw[<- ae];exact qaf.new w _ _
 have aH:StR f g n c p I d I:=⟨ak.ext qad.good V,hd,hp,Bt.refl _ _⟩
 have aE:Pq lt n d 0 n d:=Pq.start hd;have M:¬ w.heap.size=g:=by omega
 have af:g<I.heap.size:=Nat.lt_of_lt_of_le hg V.size;have HL:=Hd (Y.on V.bt);have HB:=Hd hB;have ar:=Hd aH;have ap:=Hd aE;have HX:Hid (Bt (λq=>q=g) w I):=V.bt;have HW:=Hd ae;have HT:=Hd hT;clear Y ak hp V aH aE hB ae hT
 go_enter Tryz.func277,Tryz.ntmps277
 go_wp2_with fail
 rw[HW.out];clear HW
 go_loopw [1,2,3,8,9] (λv1 v2 v3 v8 v9 wr=>∃(A B L:Nat) (wb wp:Bool) (dk:Array Int),v1 = .int .i64 (A:Int)/\v2 = .int .i64 (B:Int)/\v3 = .int .i64 (L:Int)/\v8 = .bool wb/\v9 = .bool wp/\B<=A+12+L/\L<=100/\Hid (Pq lt n d A B dk)/\Hid (StR f g n c p I dk wr)) (λv1 v2 _ _ _ _=>(intOf v2).toNat-(intOf v1).toNat)
 case atStart=>exact⟨0,n,ag,true,true,d,rfl,rfl,rfl,rfl,rfl,by omega,by omega,ap.out,ar.out⟩
 clear ar ap aA ao;obtain⟨A,B,L,wb,wp,dk,rfl,rfl,rfl,rfl,rfl,aP,hL,O,o⟩:=hrel;have k1:=O.out.ab;have k2:=O.out.bn;obtain⟨l,hl⟩:=nm (B-A);have y1:(B:Int)-(A:Int)=(l:Int):=by omega
 have X:g<wr.heap.size:=Nat.lt_of_lt_of_le af o.out.bt.size;have u:=HB.out.bt o.out.bt M;obtain⟨c0,c1,cz⟩:=c2 u;clear u
 by_cases aO:l<=12
 .have aj:=qrw J lb sf sb lt p f g n c A B dk wr el (HL.out.on o.out.bt) D o.out.row o.out.size o.out.all (by omega) k1 k2 X;have C:=insertionSort_holds hS dk A B k1 (by have:=o.out.size;omega);have HF:=Hd (O.out.fin _ C.1 C.2);clear C
  go_wp2_with fail
  refine aj.mono ?_;rintro e w' ⟨rfl,N,h2⟩;have H1:=Hd N;have H2:=Hd h2;clear N h2 aj
  go_wp2_with fail
  exact bodyPost_ret (results_none rfl _ _ _) rfl ⟨_,rfl,HF.out.1,HF.out.2,H1.out.1,H1.out.2.2,H1.out.2.1,HX.out.trans (o.out.bt.trans H2.out)⟩
 have aQ:¬ (L=0):=by omega
 go_upto_if 35 with (fail)
 go_cut [3] (λv3 wx=>∃(L':Nat) (T:Array Int),v3 = .int .i64 (L':Int)/\B<=A+13+L'/\L'<=100/\Hid (Pq lt n d A B T)/\Hid (StR f g n c p I T wx))
 case first =>
  cases wb
  .have ax:=break_c J lb sf sb p f g n c A B l (by omega) dk wr D o.out.row o.out.size o.out.all (by omega) (by omega) (by omega) k2 X
   go_wp2_with fail
   refine ax.mono ?_;rintro e w' ⟨T,rfl,aD,aa⟩;have aI:=Hd (O.out.turn aD);have aJ:=Hd (show StR f g n c p I T w' from⟨aa.row,aa.size,aa.all,o.out.bt.trans aa.bt⟩);clear aD aa ax O o
   go_wp2_with fail
   go_meet
   exact⟨L-1,T,by go_num,by omega,by omega,aI.out,aJ.out⟩
  go_wp2_with fail
  go_meet
  exact⟨L,dk,rfl,by omega,hL,O.out,o.out⟩
 clear O o c0 c1 cz X;obtain⟨L1,T,rfl,aN,aw,O,o⟩:=hcut;have X:g<wc.heap.size:=Nat.lt_of_lt_of_le af o.out.bt.size;have u:=HB.out.bt o.out.bt M;obtain⟨c0,c1,cz⟩:=c2 u;clear u;have ay:=choose_c J lb sf sb lt p f g n c A B l (by omega) T wc el (HL.out.on o.out.bt) o.out.row o.out.size o.out.all (by omega) (by omega) (by omega) k2 X
 go_wp2_with fail
 refine ay.mono ?_;rintro e w2 ⟨m,h,rfl,aB,aC,hh,au⟩;have aR:¬ h=2:=by omega
 have F:=Hd (o.out.ext au);clear c0 c1 cz ay o au;have u:=HB.out.bt F.out.bt M;obtain⟨c0,c1,cz⟩:=c2 u;clear u
 go_upto_region 16 with (fail)
 go_cut [68] (λaL wx=>∃q:Bool,aL = .bool q/\wx=w2)
 case first =>
  rcases hh with rfl | rfl <;> cases wb <;> cases wp
  all_goals go_wp2_with fail
  all_goals go_meet
  all_goals exact⟨_,rfl,rfl⟩
 rename World=>w3
 obtain⟨q,rfl,hw⟩:=hcut;subst hw
 go_upto_if 68 with (fail)
 go_cut [] (λwx=>Ext w3 wx)
 case first =>
  cases q
  .go_wp2_with fail
   go_meet
   exact Ext.refl _
  have aK:=partial_c J lb sf sb lt hS p f g n c A B T w3 el (HL.out.on F.out.bt) F.out.row F.out.size F.out.all (by omega) (by omega) (by omega) k2
  go_wp2_with fail
  refine aK.mono ?_;rintro e w4 ⟨r,rfl,aG,U⟩
  cases r
  .go_wp2_with fail
   go_meet
   exact U
  have HF:=Hd (O.out.fin T (permIn_refl T A B) (aG rfl));have E:=Hd (F.out.ext U);clear aG
  go_wp2_with fail
  exact bodyPost_ret (results_none rfl _ _ _) rfl ⟨_,rfl,HF.out.1,HF.out.2,E.out.row,E.out.size,E.out.all,HX.out.trans E.out.bt⟩
 rename World=>w4
 have U:Ext w3 w4:=hcut;clear c0 c1 cz;have E:=Hd (F.out.ext U);clear F hcut U;have u:=HB.out.bt E.out.bt M;obtain⟨c0,c1,cz⟩:=c2 u;clear u
 go_upto_region 18 with (fail)
 go_cut [83] (λaM wx=>aM = .bool false/\Ext w4 wx)
 case first =>
  by_cases hA:0<A
  .have hl:=E.out.less HL.out (A-1) m (by omega) (by omega);rw[O.out.bel.resolve_left (by omega) m aB aC,show(((A-1:Nat):Int))=(A:Int)-1 by omega]at hl
   go_wp2_with (go_at_fn J;refine hl.mono ?_;rintro e w' ⟨rfl,hx⟩)
   go_meet
   exact⟨rfl,hx⟩
  go_wp2_with fail
  go_meet
  exact⟨rfl,Ext.refl _⟩
 rename World=>w5
 obtain⟨rfl,av⟩:=hcut;clear c0 c1 cz;have G:=Hd (E.out.ext av);clear E av;have az:g<w5.heap.size:=Nat.lt_of_lt_of_le af G.out.bt.size;have u:=HB.out.bt G.out.bt M;obtain⟨c0,c1,cz⟩:=c2 u;clear u;have aF:=qx1 J lb sf sb lt p f g n c A B m T w5 el (HL.out.on G.out.bt) D G.out.row G.out.size G.out.all (by omega) aB aC k2 (by omega) az
 go_wp2_with fail
 refine aF.mono ?_;rintro e w6 ⟨mid,fl,d2,rfl,ad,ac⟩;have j1:=ad.am;have j2:=ad.mb;have v:=Hd (show StR f g n c p I d2 w6 from⟨ac.row,ac.size,ac.all,G.out.bt.trans ac.bt⟩);have aq:=Hd ad;clear c0 c1 cz aF ac ad G;have ai:g<w6.heap.size:=Nat.lt_of_lt_of_le af v.out.bt.size;have u:=HB.out.bt v.out.bt M;obtain⟨c0,c1,cz⟩:=c2 u;clear u;obtain⟨x,hx⟩:=nm (mid-A);obtain⟨y,hy⟩:=nm (B-mid);obtain⟨z,hz⟩:=nm (l / 8);have yx:(mid:Int)-(A:Int)=(x:Int):=by omega
 have yy:(B:Int)-(mid:Int)=(y:Int):=by omega
 have yz:(l:Int) / 8=(z:Int):=by omega
 have aV:(l:Int).tdiv 8=(z:Int):=by rw[Int.tdiv_eq_ediv_of_nonneg (by omega)];exact yz
 have aS:A+x<=mid/\mid<=A+x:=by omega
 have aU:mid+y<=B/\B<=mid+y:=by omega
 clear hx hy hz
 by_cases aT:x<y
 .have hq:=pdq_c J lb sf sb lt p f g n c A mid L1 d2 w6 el (HL.out.on v.out.bt) D v.out.row v.out.size v.out.all (by omega) j1 (by omega) (by omega) ai;have C:=insertionSort_holds hS d2 A mid j1 (by have:=v.out.size;omega);have al:=Hd (O.out.left hS HT.out aq.out C.1 C.2);clear C
  go_wp2_with fail
  refine hq.mono ?_;rintro e w7 ⟨rfl,N,h2⟩;have an:=Hd (show StR f g n c p I (insertionSort lt d2 A mid) w7 from⟨N.1,N.2.2,N.2.1,v.out.bt.trans h2⟩);clear N h2 hq
  go_wp2_with fail
  go_roundw
  case rel=>exact⟨mid+1,B,L1,_,fl,_,by go_num,rfl,rfl,rfl,rfl,by omega,aw,al.out,an.out⟩
  simp[intOf];omega
 have hq:=pdq_c J lb sf sb lt p f g n c (mid+1) B L1 d2 w6 el (HL.out.on v.out.bt) D v.out.row v.out.size v.out.all (by omega) (by omega) k2 (by omega) ai;rw[show((mid+1:Nat):Int)=(mid:Int)+1 by omega]at hq;have C:=insertionSort_holds hS d2 (mid+1) B (by omega) (by have:=v.out.size;omega);have al:=Hd (O.out.right hS aq.out C.1 C.2);clear C
 go_wp2_with fail
 refine hq.mono ?_;rintro e w7 ⟨rfl,N,h2⟩;have an:=Hd (show StR f g n c p I (insertionSort lt d2 (mid+1) B) w7 from⟨N.1,N.2.2,N.2.1,v.out.bt.trans h2⟩);clear N h2 hq
 go_wp2_with fail
 go_roundw
 case rel=>exact⟨A,mid,L1,_,fl,_,rfl,rfl,rfl,rfl,rfl,by omega,aw,al.out,an.out⟩
 simp[intOf];omega
end
section
open Go.Shelf Go.Sort Go.Lib
theorem bit_len:∀l:Fin 17,12<l.1->l.1<=12+Lib.bitLen l.1/\Lib.bitLen l.1<=100:=by decide
theorem slice16_c (v:Nat) (y:Array Value) (lt:Int->Int->Bool) (hS:SWO lt) (p:Int->Prop) (o g n c:Nat) (d:Array Int) (J:Tot lt d) (w:World) (I:∀u w,(callFunc v u).run Tryz.prog w = .ok (.enter v u) w)
  (q:qey v y lt p o g n c w) (r:qbv o w d g n c) (A:d.size=n) (L:∀x∈d.toList,p x) (hn:n<=16) (F:g<w.heap.size) :
  Calls Tryz.prog 246 #[.iface 53 (.slice (some ⟨g,0,none⟩) n c),.func (.func v) #[] y] w (qks o g n c p (insertionSort lt d 0 n) w):=by
 by_cases C:n<=12
 .exact slice_c v y lt p o g n c d w I q r A L C F
 refine qsn v y p o g n c d _ w (λf B G W D=>?_) r A hn F;have E:=bit_len ⟨n,by omega⟩ (by show 12<n;omega);simp only at E;refine(quick_c v y f B lt hS p o g n c (Lib.bitLen n) d _ I (q.on D.bt) G (r.ext qad.good D) A L (by omega) J (by omega) (by omega) (Nat.lt_of_lt_of_le F D.size)).mono ?_;rintro e T ⟨O,rfl,M,N,z⟩;obtain rfl:=one_order hS J A M N;exact⟨rfl,⟨z.row,z.all,z.size⟩,z.bt⟩
end
section
open Go.Sort
theorem swo_ix (c:List Lb):SWO (ltIx c) where
 irrefl x:=decide_eq_false (by have:=qbe.refl (qbg c x);omega)
 trans x y z h1 h2:=decide_eq_true (qbe.trans _ _ _ (of_decide_eq_true h1) (of_decide_eq_true h2))
 ntrans x y z h1 h2:=by
  have f:=of_decide_eq_false h1;have g:=of_decide_eq_false h2;refine decide_eq_false λh=>?_
  by_cases r:qak (qbg c x) (qbg c y)=0
  .rw [qbe.eq _ _ r]at h;exact g h
  by_cases u:qak (qbg c y) (qbg c z)=0
  .rw [<- qbe.eq _ _ u]at h;exact f h
  have o:qak (qbg c y) (qbg c x)<0:=(qbe.sgn _ _).2 (by omega);have q:qak (qbg c z) (qbg c y)<0:=(qbe.sgn _ _).2 (by omega);have v:=qbe.trans _ _ _ q o;have:=(qbe.sgn _ _).1 h;omega
theorem qpr (n:Nat):qdq n n=(List.range n).map λi:Nat=>(i:Int):=by
 unfold qdq;refine List.map_congr_left λi hi=>?_
 rw[if_pos (List.mem_range.1 hi)]
theorem tot_ix {f:List Lb} (h:f.Nodup):Tot (ltIx f) (qdq f.length f.length).toArray:=by
 refine⟨?_,λx q y hy g o=>?_⟩
 .rw [qpr];exact List.Pairwise.map (S:=(· ≠ ·)) (λi:Nat=>(i:Int)) (λa b g e=>g (by omega)) List.nodup_range
 obtain⟨r,u⟩:=qmy _ x q;obtain⟨v,w⟩:=qmy _ y hy;have z:=of_decide_eq_false o;refine decide_eq_true ((qbe.sgn _ _).2 ?_)
 have A:qak (qbg f x) (qbg f y)≠0:=λe=>by
  have e:=qbe.eq _ _ e;obtain⟨i,rfl⟩:∃i:Nat,x=i:=⟨x.toNat,by omega⟩
  obtain⟨j,rfl⟩:∃j:Nat,y=j:=⟨y.toNat,by omega⟩
  rw[qfd f i (by omega),qfd f j (by omega)]at e
  rcases Nat.lt_trichotomy i j with c | c | c
  .exact List.pairwise_iff_getElem.1 h i j (by omega) (by omega) c e
  .omega
  exact List.pairwise_iff_getElem.1 h j i (by omega) (by omega) c e.symm
 omega
theorem sortOK16 {c:List Lb} (h:c.length<=16) (hn:c.Nodup):qm2 c:=λr f g w q hr o =>
 slice16_c 247 r (ltIx c) (swo_ix c) (λx=>0<=x/\x<c.length) f g c.length c.length (qdq c.length c.length).toArray (tot_ix hn) w eg247 q hr (by rw[List.size_toArray,qif]) (qmy _) h o
theorem qy2 {f:List Lb} (h:f.Nodup) (x:Lb):(qbx f x).Nodup:=by
 unfold qbx
 split
 .exact h
 rename_i o;rw[List.nodup_append];exact⟨h,by simp,λa g b c e=>o (by rw[List.mem_singleton]at c;subst c;subst e;exact g)⟩
theorem qn4:∀(rs:List Ar) (c:List Lb) (f:List Ed),c.Nodup->(qas rs c f).1.Nodup
 | [],_,_,h=>h
 | a :: rs,c,f,h=>qn4 rs _ _ (qy2 h a.l)
theorem qqz:∀(rs:List Ar) (c:List Lb) (f:List Ed) (x:Lb),x∈(qas rs c f).1↔x∈c\/∃a∈rs,a.l=x
 | [],c,_,x=>by simp[qas]
 | a :: rs,c,f,x=>by
  rw[qas,qqz rs]
  have:x∈qbx c a.l↔x∈c\/a.l=x:=by
   unfold qbx
   split
   .rename_i h;exact⟨.inl,λg=>g.elim id λe=>e ▸ h⟩
   rw[List.mem_append,List.mem_singleton,eq_comm (a:=x)]
  rw[this];simp[or_assoc]
theorem len_le {α:Type} [DecidableEq α]:∀(l m:List α),l.Nodup->(∀x∈l,x∈m)->l.length<=m.length
 | [],_,_,_=>Nat.zero_le _
 | x :: l,m,h,hs=>by
  have f:=hs x (by simp);rw[List.nodup_cons]at h
  have:=len_le l (m.erase x) h.2 λy hy=>by
   have c:y≠x:=λe=>h.1 (e ▸ hy)
   exact(List.mem_erase_of_ne c).2 (hs y (by simp[hy]))
  rw[List.length_erase_of_mem f]at this;have g:0<m.length:=List.length_pos_of_mem f;simp only[List.length_cons];omega
end
section
open Go.Shelf
def qfy (s:Sy) (e:Ed):Ar:=⟨e.f,qbg s.ls e.l,e.t⟩
def qc4 (s:Sy) (m:Mu) (i:Nat) (e:Ed):List Ar:=if (i:Int)=m.e then (if m.k=1 then [] else if m.k=2 then [⟨e.f,qbg s.ls e.l,m.t⟩] else [⟨e.f,qbg s.ls m.l,e.t⟩]) else [qfy s e]
def qcn (s:Sy) (i:Nat):Ed:=s.es.getD i ⟨0,0,0⟩
def muP (s:Sy) (m:Mu) (k:Nat):List Ar:=(List.range k).flatMap λi=>qc4 s m i (qcn s i)
theorem qkl (s:Sy) (m:Mu) (k:Nat):muP s m (k+1)=muP s m k++qc4 s m k (qcn s k):=by simp[muP,List.range_succ]
theorem muArc_len (s:Sy) (m:Mu) (i:Nat) (e:Ed):(qc4 s m i e).length<=1:=by
 unfold qc4
 split
 .split
  .simp
  split <;> simp
 simp
theorem qjp (s:Sy) (m:Mu):∀k,(muP s m k).length<=k
 | 0=>by simp[muP]
 | k+1=>by
  have:=qjp s m k;have:=muArc_len s m k (qcn s k);rw[qkl,List.length_append];omega
abbrev qdl (s:Sy) (m:Mu):List Ar:=muP s m s.es.length
def qbq (s:Sy) (m:Mu):Prop:=(0<=m.e/\m.e<s.es.length)/\((m.k=1/\m.t=0/\m.l=0)\/(m.k=2/\(0<=m.t/\m.t<s.n)/\m.l=0)\/(m.k=3/\m.t=0/\(0<=m.l/\m.l<s.ls.length)))
def qde (s:Sy) (m:Mu):Sy:=qcv s.n (qdl s m)
theorem qeo {s:Sy} {i:Nat} (h:i<s.es.length):qcn s i=s.es[i]:=by simp[qcn,List.getD_eq_getElem?_getD,List.getElem?_eq_getElem h]
theorem qjs {s:Sy} (h:qah s) (i:Nat) (hi:i<s.es.length):0<=(qcn s i).f/\(qcn s i).f<s.n/\0<=(qcn s i).t/\(qcn s i).t<s.n/\0<=(qcn s i).l/\(qcn s i).l<s.ls.length:=by
 rw[qeo hi];have:=(h.2.2.2.2.2 i hi).1;simp[qb8,isB]at this;omega
theorem qhm {s:Sy} {m:Mu} (o:qah s) (q:qbq s m) {a:Ar}:∀{k},k<=s.es.length->a∈muP s m k->(0<=a.f/\a.f<s.n)/\(0<=a.t/\a.t<s.n)/\a.l∈s.ls
 | 0,_,h=>by simp[muP]at h
 | k+1,hk,h=>by
  rw[qkl,List.mem_append]at h
  rcases h with h | h
  .exact qhm o q (by omega) h
  have c:=qjs o k (by omega)
  have g:∀x:Int,0<=x->x<s.ls.length->qbg s.ls x∈s.ls:=λx y u=>by
   obtain⟨n,rfl⟩:∃n:Nat,x=n:=⟨x.toNat,by omega⟩
   rw[qfd s.ls n (by omega)];exact List.getElem_mem _
  unfold qc4 at h
  split at h
  .split at h
   .simp at h
   rename_i u
   split at h
   .rename_i v;rw[List.mem_singleton]at h;subst h
    rcases q.2 with⟨e,_⟩ | ⟨_,w,_⟩ | ⟨e,_⟩
    .omega
    .exact ⟨⟨c.1,c.2.1⟩,w,g _ (by omega) (by omega)⟩
    omega
   rename_i v;rw[List.mem_singleton]at h;subst h
   rcases q.2 with⟨e,_⟩ | ⟨e,_⟩ | ⟨_,_,r⟩
   .omega
   .omega
   exact⟨⟨c.1,c.2.1⟩,⟨c.2.2.1,c.2.2.2.1⟩,g _ r.1 r.2⟩
  rw[List.mem_singleton]at h;subst h;exact⟨⟨c.1,c.2.1⟩,⟨c.2.2.1,c.2.2.2.1⟩,g _ (by omega) (by omega)⟩
theorem qo5 {s:Sy} {m:Mu} (c:qah s) (g:qbq s m):(qas (qdl s m) [] []).1.length<=s.ls.length/\(qas (qdl s m) [] []).1.Nodup:=by
 have hn:=qn4 (qdl s m) [] [] (by simp);refine⟨len_le _ _ hn λx o=>?_,hn⟩
 rcases(qqz _ _ _ x).1 o with h | ⟨a,f,rfl⟩
 .cases h
 exact(qhm c g (Nat.le_refl _) f).2.2
theorem qrm {s:Sy} (c:qah s) {x:Lb} (f:x∈s.ls):qa0 x=true:=by
 obtain⟨i,hi,rfl⟩:=List.getElem_of_mem f;exact(c.2.2.2.2.1 i hi).1
theorem buildMu_c (S:Nat->Prop) (s:Sy) (c:qah s) (o:qfk s) (r:s.ls.length<=16) (m:Mu) (g:qbq s m) (v:Value) (w:World) (z:RSl RAr 4 S w (qdl s m) [v]) :
  Calls Tryz.prog 135 #[.int .i64 s.n,v] w (qr5 s.n (qdl s m) w):=by
 have y:=qo5 c g;have q:(qdl s m).length<=s.es.length:=qjp s m s.es.length;have A:=c.2.2.2.1;have u:=qlb (qdl s m) [] [];refine build_c S s.n ⟨c.1,c.2.1⟩ (qdl s m) v w z (λa f=>?_) (λa f=>?_) (by omega) (by omega) (sortOK16 (by omega) y.2) (compOK ?_)
 .have:=qhm c g (Nat.le_refl _) f;exact⟨this.1,this.2.1⟩
 .have:=qhm c g (Nat.le_refl _) f;exact⟨qrm c this.2.2,o _ this.2.2⟩
 rw[qnu,qiw];simp only[List.length_nil]at u;omega
end
section
open Go.Sort
theorem ql4 (c:List Lb):(qe3 c).toList.Perm (qdq c.length c.length)/\SortedIn (ltIx c) 0 c.length (qe3 c):=by
 have hi:=insertionSort_holds (swo_ix c) (qdq c.length c.length).toArray 0 c.length (Nat.zero_le _) (by simp[qif]);refine⟨?_,hi.2⟩;have:=qma hi.1 (by rw[List.size_toArray,qif]);simpa[qe3]using this
theorem qjc (c:List Lb) (x:Int):x∈(qe3 c).toList↔∃i:Nat,i<c.length/\(i:Int)=x:=by
 rw[(ql4 c).1.mem_iff,qpr]
 simp
theorem quk (f:List Lb):(qe3 f).toList.Nodup:=by
 rw[(ql4 f).1.nodup_iff,qpr];exact List.Pairwise.map (S:=(· ≠ ·)) (λi:Nat=>(i:Int)) (λa b c e=>c (by omega)) List.nodup_range
theorem qrk (c:List Lb):(qe3 c).toList.length=c.length:=by rw[(ql4 c).1.length_eq,qif]
theorem qt5:∀(c:List Int) (i:Nat) (p:List Int) (j:Nat),(∀x∈c,x.toNat≠j)->(qem c i p)[j]? = p[j]?
 | [],_,_,_,_=>rfl
 | o :: c,i,p,j,h=>by
  rw[qem,qt5 c _ _ j λx f=>h x (by simp[f]),List.getElem?_set_ne (h o (by simp))]
theorem qvm:∀(c:List Int) (i:Nat) (p:List Int) (k:Nat) (f:k<c.length),(c.Pairwise λa b=>a.toNat≠b.toNat)->c[k].toNat<p.length->(qem c i p)[c[k].toNat]? = some ((i+k:Nat):Int)
 | [],_,_,_,h,_,_=>by simp at h
 | o :: c,i,p,0,_,hn,hp=>by
  rw[List.pairwise_cons]at hn;simp only[List.getElem_cons_zero]at hp ⊢;rw[qem,qt5 c _ _ _ λx g=>(hn.1 x g).symm,List.getElem?_set_self hp];rfl
 | o :: c,i,p,k+1,f,hn,hp=>by
  rw[List.pairwise_cons]at hn;simp only[List.getElem_cons_succ]at hp ⊢;rw[qem,qvm c (i+1) _ k (by simpa using f) hn.2 (by rw[List.length_set];exact hp)]
  congr 2
  omega
theorem ord_ne (c:List Lb):(qe3 c).toList.Pairwise λa b=>a.toNat≠b.toNat:=by
 have h:=quk c;refine List.Pairwise.imp_of_mem (λ{a b} g o f e=>f ?_) h;obtain⟨i,_,rfl⟩:=(qjc c a).1 g;obtain⟨j,_,rfl⟩:=(qjc c b).1 o;omega
theorem labR_mem (c:List Lb) (x:Lb):x∈qc7 c↔x∈c:=by
 unfold qc7;rw[List.mem_map]
 constructor
 .rintro ⟨a,f,rfl⟩;obtain⟨i,hi,rfl⟩:=(qjc c a).1 f;rw[qfd c i hi];exact List.getElem_mem _
 intro g;obtain⟨i,hi,rfl⟩:=List.getElem_of_mem g;exact⟨(i:Int),(qjc c _).2 ⟨i,hi,rfl⟩,qfd c i hi⟩
theorem qwb (c:List Lb):(qc7 c).length=c.length:=by rw[qc7,List.length_map,qrk]
theorem place_lab (c:List Lb) (i:Nat) (hi:i<c.length):∃k:Nat,k<c.length/\((qff c)[i]?).getD 0=(k:Int)/\(qc7 c)[k]? = some c[i]:=by
 have q:=(qjc c (i:Int)).2 ⟨i,hi,rfl⟩;obtain⟨k,g,f⟩:=List.getElem_of_mem q;have o:=qvm (qe3 c).toList 0 (List.replicate c.length 0) k g (ord_ne c) (by rw[f,List.length_replicate];simpa using hi);rw[f,Int.toNat_natCast,Nat.zero_add]at o;refine⟨k,by rw[<- qrk c];exact g,by rw[qff,o];rfl,?_⟩;rw[qc7,List.getElem?_map,List.getElem?_eq_getElem g,f];show some (qbg c (i:Int))=_;rw[qfd c i hi]
theorem qtz {c:List Lb} (hn:c.Nodup):Inc (qc7 c):=by
 have hs:=(ql4 c).2;have A:(qe3 c).size=c.length:=by rw[<- Array.length_toList,qrk]
 unfold Inc qc7;rw[List.pairwise_map,List.pairwise_iff_getElem];intro i j hi v g;have u:i<(qe3 c).size:=by simpa using hi
 have w:j<(qe3 c).size:=by simpa using v
 have f:=hs i j (Nat.zero_le _) g (by omega);rw[getElem!_pos _ j w,getElem!_pos _ i u]at f;have f:=of_decide_eq_false f;have o:=List.pairwise_iff_getElem.1 (quk c) i j hi v g;have B:=(qjc c _).1 (List.getElem_mem hi);have C:=(qjc c _).1 (List.getElem_mem v);obtain⟨a,q,y⟩:=B;obtain⟨b,r,z⟩:=C;simp only[Array.getElem_toList]at *;rw[<- y,<- z]at f o ⊢;rw[qfd c a q,qfd c b r]at f ⊢
 have D:qak c[b] c[a]≠0:=λe=>by
  have e:=qbe.eq _ _ e
  rcases Nat.lt_trichotomy a b with h | h | h
  .exact List.pairwise_iff_getElem.1 hn a b q r h e.symm
  .exact o (by omega)
  exact List.pairwise_iff_getElem.1 hn b a r q h e
 exact(qbe.sgn _ _).2 (by omega)
theorem qwy:∀(rs:List Ar) (c:List Lb) (g:List Ed),∃t,(qas rs c g).1=c++t
 | [],c,_=>⟨[],by simp[qas]⟩
 | a :: rs,c,g=>by
  obtain⟨t,o⟩:=qwy rs (qbx c a.l) (g++[⟨a.f,(c.idxOf a.l:Int),a.t⟩]);rw[qas,o];unfold qbx
  split
  .exact ⟨t,rfl⟩
  exact⟨[a.l]++t,by simp⟩
theorem addLb_at (c:List Lb) (x:Lb):(qbx c x)[c.idxOf x]? = some x:=by
 unfold qbx
 split
 .rename_i h;rw[List.getElem?_eq_getElem (List.idxOf_lt_length_of_mem h)]
  simp
 rename_i h;rw[List.idxOf_eq_length h]
 simp
def EdOf (ls:List Lb) (e:Ed) (a:Ar):Prop:=e.f=a.f/\e.t=a.t/\0<=e.l/\ls[e.l.toNat]? = some a.l
theorem qvz:∀(rs:List Ar) (c:List Lb) (g:List Ed),(∀e∈(qas rs c g).2,e∈g\/∃a∈rs,EdOf (qas rs c g).1 e a)/\(∀a∈rs,∃e∈(qas rs c g).2,EdOf (qas rs c g).1 e a)/\∀e∈g,e∈(qas rs c g).2
 | [],c,g=>⟨λe h=>.inl h,by simp,λe h=>h⟩
 | a :: rs,c,g=>by
  obtain⟨v,w,u⟩:=qvz rs (qbx c a.l) (g++[⟨a.f,(c.idxOf a.l:Int),a.t⟩]);obtain⟨t,y⟩:=qwy rs (qbx c a.l) (g++[⟨a.f,(c.idxOf a.l:Int),a.t⟩])
  have o:EdOf (qas rs (qbx c a.l) (g++[⟨a.f,(c.idxOf a.l:Int),a.t⟩])).1 ⟨a.f,(c.idxOf a.l:Int),a.t⟩ a:=by
   refine⟨rfl,rfl,by show(0:Int)<=(c.idxOf a.l:Int);omega,?_⟩;show(qas rs _ _).1[((c.idxOf a.l:Nat):Int).toNat]? = _;rw[Int.toNat_natCast,y,List.getElem?_append_left (quo c a.l),addLb_at]
  rw[qas];refine⟨λe r=>?_,λb q=>?_,λe r=>u e (by simp[r])⟩
  .rcases v e r with h | ⟨b,q,h⟩
   .rcases List.mem_append.1 h with h | h
    .exact .inl h
    rw[List.mem_singleton.1 h];exact .inr ⟨a,by simp,o⟩
   exact .inr ⟨b,by simp[q],h⟩
  rcases List.mem_cons.1 q with rfl | q
  .exact ⟨_,u _ (by simp),o⟩
  exact w b q
theorem qua (l:List Ed) (e:Ed):e∈qef l↔e∈l:=ql8 qk2 l e
theorem qpj (n:Int) (rs:List Ar):(∀e∈(qcv n rs).es,∃a∈rs,EdOf (qcv n rs).ls e a)/\∀a∈rs,∃e∈(qcv n rs).es,EdOf (qcv n rs).ls e a:=by
 obtain⟨o,q,_⟩:=qvz rs [] []
 have c:∀(e:Ed) (a:Ar),EdOf (qas rs [] []).1 e a->EdOf (qc7 (qas rs [] []).1) ⟨e.f,((qff (qas rs [] []).1)[e.l.toNat]?).getD 0,e.t⟩ a:=λe a h=>by
  obtain⟨o,q,z,w⟩:=h;obtain⟨hi,g⟩:=List.getElem?_eq_some_iff.1 w;obtain⟨k,A,v,y⟩:=place_lab (qas rs [] []).1 e.l.toNat hi;refine⟨o,q,by show 0<=((qff _)[_]?).getD 0;rw[v];omega,?_⟩;show(qc7 _)[((((qff _)[_]?).getD 0:Int)).toNat]? = _;rw[v,Int.toNat_natCast,y,g]
 constructor
 .intro e g;have g:e∈qef (qdi qbf (edR (qas rs [] []).1 (qas rs [] []).2)):=g;rw[qua,qhr]at g;obtain⟨d,u,rfl⟩:=List.mem_map.1 g
  rcases o d u with h | ⟨a,r,h⟩
  .cases h
  exact⟨a,r,c d a h⟩
 intro a r;obtain⟨d,u,h⟩:=q a r;refine⟨_,?_,c d a h⟩;show _∈qef (qdi qbf (edR (qas rs [] []).1 (qas rs [] []).2));rw[qua,qhr];exact List.mem_map.2 ⟨d,u,rfl⟩
theorem qs8 (n:Int) (rs:List Ar) (x:Lb):x∈(qcv n rs).ls↔∃a∈rs,a.l=x:=by
 show x∈qc7 (qas rs [] []).1↔_;rw[labR_mem,qqz]
 simp
theorem build_ok {n:Int} {rs:List Ar} (hn:1<=n/\n<=20000) (r:∀a∈rs,(0<=a.f/\a.f<n)/\0<=a.t/\a.t<n) (C:∀a∈rs,qa0 a.l=true) (A:(qas rs [] []).1.length<=4000) (E:rs.length<=100000):qah (qcv n rs):=by
 have c:Inc (qcv n rs).ls:=qtz (qn4 rs [] [] (by simp));have q:=(qpj n rs).1;refine⟨hn.1,hn.2,?_,?_,λj g=>⟨?_,λz=>?_⟩,λj g=>⟨?_,λz=>?_⟩⟩
 .show (qc7 _).length<=_;rw[qwb];exact A
 .have h:=(qlb rs [] []).2;have B:(qef (qdi qbf (edR (qas rs [] []).1 (qas rs [] []).2))).length<=(qdi qbf (edR (qas rs [] []).1 (qas rs [] []).2)).length:=ql6 qbw _;rw[qnu,qiw]at B;show(qef _).length<=_;simp only[List.length_nil]at h;omega
 .obtain ⟨a,o,e⟩:=(qs8 n rs _).1 (List.getElem_mem g);rw[<- e];exact C a o
 .exact c.get (by omega) g
 .obtain ⟨a,o,v,w,D,y⟩:=q _ (List.getElem_mem g);have hr:=r a o;obtain⟨hi,_⟩:=List.getElem?_eq_some_iff.1 y;have u:(qcv n rs).n=n:=rfl;simp[qb8,isB,v,w,u];omega
 have hs:=qja qfc qk2 _ (qid qfc (edR (qas rs [] []).1 (qas rs [] []).2));exact List.pairwise_iff_getElem.1 hs (j-1) j (by show j-1<(qcv n rs).es.length;omega) g (by omega)
end
end Go.Proofs.YtegenalcheooeaaGreat
